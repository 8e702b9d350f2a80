/- Plain laws of SchedInterrupt: a process is put away, the others run, it goes on. -/
import Derived.Test.YtckbmpoomamenaaWalkF

namespace Go.Proofs
open Go Go.Sx
set_option maxRecDepth 10000
/-- A core whose high queue is Q. -/
def Core.wq (k : Core) (Q : List Nat) : Core := { k with f0 := fstQ Q, b0 := lstQ Q }
theorem wq_app (k : Core) (i : Nat) : appK (k.wq (List.range i)) false (List.range i) i = k.wq (List.range (i + 1)) := by
  cases i with
  | zero => rfl
  | succ i =>
    have hn : List.range (i + 1) ≠ [] := by simp
    have e : appK (k.wq (List.range (i + 1))) false (List.range (i + 1)) (i + 1) = (k.wq (List.range (i + 1))).setB false (spc (i + 1)) := by
      generalize hQ : List.range (i + 1) = Q at hn
      cases Q with
      | nil => exact absurd rfl hn
      | cons a t => rfl
    rw [e, List.range_succ (n := i + 1)]
    show { k with f0 := fstQ (List.range (i + 1)), b0 := spc (i + 1) } = { k with f0 := fstQ (List.range (i + 1) ++ [i + 1]), b0 := lstQ (List.range (i + 1) ++ [i + 1]) }
    rw [lstQ_app, fstQ_app hn]
theorem wq_tak (k : Core) (j : Nat) (Q : List Nat) : takK (k.wq (j :: Q)) false Q = k.wq Q := by
  cases Q <;> rfl
theorem range_drop {N j : Nat} (h : j < N) : List.range' j (N - j) = j :: List.range' (j + 1) (N - (j + 1)) := by
  rw [show N - j = (N - (j + 1)) + 1 by omega, List.range'_succ]
/-- The process that is put away. -/
def wasK (a b c ip sl : Int) (fault : Bool) : Core := ⟨a, b, c, ip, spc 30, 1, true, fault, false, false, NP, NP, NP, NP, NP, NP, 0, 0, 0, sl, false, 0, 0, 0, 0, 0, false, 0⟩
theorem wasK_ok {a b c ip sl : Int} {fault : Bool} (ha : I32 a) (hb : I32 b) (hc : I32 c) (hi : I32 ip) (hs : I32 sl) : (wasK a b c ip sl fault).ok := by
  have h0 : I32 0 := by unfold I32; omega
  have hn : I32 NP := by unfold I32 NP; omega
  constructor <;> first | exact h0 | exact ha | exact hb | exact hc | exact hi | exact hs | exact hn | exact spc_I32 (by decide) | exact ⟨by show (-9223372036854775808 : Int) ≤ 1; decide, by show (1 : Int) ≤ 9223372036854775807; decide⟩
theorem wq_ok {k : Core} {Q : List Nat} (h : k.ok) (hQ : ∀ x ∈ Q, x < 50) : (k.wq Q).ok := by
  have h1 : I32 (fstQ Q) := by
    cases Q with
    | nil => show I32 NP; unfold I32 NP; omega
    | cons a t => exact spc_I32 (hQ a (by simp))
  have h2 : I32 (lstQ Q) := by
    by_cases hn : Q = []
    · subst hn; show I32 NP; unfold I32 NP; omega
    · obtain ⟨j, hj, e⟩ := lstQ_mem hn
      rw [e]; exact spc_I32 (hQ j hj)
  constructor <;> first | exact h1 | exact h2 | exact h.a | exact h.b | exact h.c | exact h.iptr | exact h.wptr | exact h.pri | exact h.f1 | exact h.b1 | exact h.t0 | exact h.t1 | exact h.k0 | exact h.k1 | exact h.ticks | exact h.slice | exact h.sa | exact h.sb | exact h.sc | exact h.siptr | exact h.swptr | exact h.sslice
/-- Where the law stands. -/
def Stage (W : Core) (N j : Nat) (k : Core) : Prop := (j = 0 ∧ k = W.wq (List.range' 0 N)) ∨ (0 < j ∧ k = W.sav.wq (List.range' j (N - j)))
theorem stage_ok {W : Core} {N j : Nat} {k : Core} (hW : W.ok) (hN : N ≤ 20) (h : Stage W N j k) (hj : j ≤ N) : k.ok := by
  rcases h with ⟨_, rfl⟩ | ⟨_, rfl⟩
  · exact wq_ok hW fun x hx => by have := List.mem_range'_1.1 hx; omega
  · exact wq_ok (sav_ok hW) fun x hx => by have := List.mem_range'_1.1 hx; omega
theorem stage_step {a b c ip sl : Int} {fault : Bool} {N j : Nat} {k : Core} {m : Ram} (hW : (wasK a b c ip sl fault).ok) (hN : N ≤ 20) (hj : j < N) (hl : m.l.length = 2048) (h : Stage (wasK a b c ip sl fault) N j k)
    (hQ : QI k m false (List.range' j (N - j))) : ∃ k1 : Core, setR k m = (k1, 0) ∧ k1.ok ∧ k1.wptr = spc j ∧ k1.pri = 0 ∧ k1.sis = true ∧ k1.err = false ∧
      ∃ m' : Ram, m'.l.length = 2048 ∧ (∀ v, exeR { k1 with a := v, err := true } m 15 21 = ((wasK a b c ip sl fault).sav.wq (List.range' (j + 1) (N - (j + 1))), 0, m')) ∧
        QI ((wasK a b c ip sl fault).sav.wq (List.range' (j + 1) (N - (j + 1)))) m' false (List.range' (j + 1) (N - (j + 1))) := by
  have hok := stage_ok hW hN h (by omega)
  rw [range_drop hj] at hQ
  obtain ⟨Q, hQe⟩ : ∃ Q, List.range' (j + 1) (N - (j + 1)) = Q := ⟨_, rfl⟩
  rw [hQe] at hQ ⊢
  have hj50 : j < 50 := by omega
  have hQ50 : ∀ x ∈ Q, x < 50 := fun x hx => hQ.lt x (List.mem_cons_of_mem _ hx)
  obtain ⟨S, hS⟩ : ∃ S, (wasK a b c ip sl fault).sav = S := ⟨_, rfl⟩
  have key : setR k m = (runC (S.wq (j :: Q)) m false j Q, 0) := by
    rcases h with ⟨rfl, rfl⟩ | ⟨hj0, rfl⟩
    · have hr : List.range' 0 N = 0 :: Q := by rw [← hQe, ← range_drop hj, Nat.sub_zero]
      rw [hr] at hQ ⊢
      have := set_high hl (k := (wasK a b c ip sl fault).wq (0 :: Q)) rfl rfl rfl hQ
      rw [this, ← hS]; rfl
    · rw [hS, range_drop hj, hQe] at hQ ⊢
      exact set_next hl (k := S.wq (j :: Q)) (by rw [← hS]; rfl) (by rw [← hS]; rfl) (by rw [← hS]; rfl) hQ
  have hQS : QI (S.wq (j :: Q)) m false (j :: Q) := hQ.keep (k' := S.wq (j :: Q)) (by rw [hQ.f]; rfl) (by rw [hQ.b]; rfl) (fun _ _ => rfl)
  have hSok : S.ok := by rw [← hS]; exact sav_ok hW
  have hrun : runC (S.wq (j :: Q)) m false j Q = { (S.wq Q).nobody with wptr := spc j, iptr := m.word (spc j - 4), pri := 0, busy := true } := by
    unfold runC; rw [wq_tak]; rfl
  have hsis : S.sis = true := by rw [← hS]; rfl
  refine ⟨_, key, ?_, ?_, ?_, ?_, ?_, m.set (spc j - 4) (m.word (spc j - 4)), (set_len _ _ _).trans hl, ?_, ?_⟩
  · rw [hrun]
    have h1 := nobody_ok (wq_ok hSok hQ50)
    constructor <;> first | exact spc_I32 hj50 | exact word_I32 _ _ | exact ⟨by show (-9223372036854775808 : Int) ≤ 0; decide, by show (0 : Int) ≤ 9223372036854775807; decide⟩ | exact h1.a | exact h1.b | exact h1.c | exact h1.f0 | exact h1.f1 | exact h1.b0 | exact h1.b1 | exact h1.t0 | exact h1.t1 | exact h1.k0 | exact h1.k1 | exact h1.ticks | exact h1.slice | exact h1.sa | exact h1.sb | exact h1.sc | exact h1.siptr | exact h1.swptr | exact h1.sslice
  · rw [hrun]
  · rw [hrun]
  · rw [hrun]; exact hsis
  · rw [hrun]; rfl
  · intro v
    rw [hrun]
    obtain ⟨e1, e2, e3⟩ := wait_law (k := { { (S.wq Q).nobody with wptr := spc j, iptr := m.word (spc j - 4), pri := 0, busy := true } with a := v, err := true }) (m := m) (i := j) hl rfl rfl hj50
    show opR _ m 21 = _
    show (waitK _ m, waitE _ m, waitM _ m) = _
    rw [e1, e2, e3, ← hS]
    rfl
  · exact QI.keep (k := runC (S.wq (j :: Q)) m false j Q) (sta_law hl hQS).2 (by rw [hrun]; rfl) (by rw [hrun]; rfl) (fun x hx => set4_keep hl hj50 (hQ50 x hx) (word_I32 _ _))
theorem stage_end {a b c ip sl : Int} {fault : Bool} {m : Ram} : setR ((wasK a b c ip sl fault).sav.wq []) m = (wasK a b c ip sl fault, 0) :=
  set_back rfl rfl rfl rfl rfl
end Go.Proofs

namespace Go.Proofs
open Go Go.Sx
set_option maxRecDepth 10000
noncomputable abbrev ctIn : CT := [(f_mem_New, eNew), (f_r29_Reset, eReset), (f_sched_Append, eAppend), (f_sched_Settle, eSettle), (f_sched_Exec, eExec), (f_l29_op, in_l29_op []), (f_l29_space, eSpace), (f_l29_head, eHead)]
theorem ctIn_ok : CTok Try.prog ctIn := ⟨con_ok cal_mem_New _, con_ok cal_r29_Reset _, con_ok cal_sched_Append _, con_ok cal_sched_Settle _, con_ok cal_sched_Exec _, in_l29_op_ok (ct := []) trivial, con_ok cal_l29_space _, con_ok cal_l29_head _, trivial⟩
theorem a_ok {k : Core} (h : k.ok) {v : Int} (hv : I32 v) : ({ k with a := v } : Core).ok := by
  constructor <;> first | exact hv | exact h.b | exact h.c | exact h.iptr | exact h.wptr | exact h.pri | exact h.f0 | exact h.f1 | exact h.b0 | exact h.b1 | exact h.t0 | exact h.t1 | exact h.k0 | exact h.k1 | exact h.ticks | exact h.slice | exact h.sa | exact h.sb | exact h.sc | exact h.siptr | exact h.swptr | exact h.sslice
theorem err_ok {k : Core} (h : k.ok) {v : Bool} : ({ k with err := v } : Core).ok := by
  constructor <;> first | exact h.a | exact h.b | exact h.c | exact h.iptr | exact h.wptr | exact h.pri | exact h.f0 | exact h.f1 | exact h.b0 | exact h.b1 | exact h.t0 | exact h.t1 | exact h.k0 | exact h.k1 | exact h.ticks | exact h.slice | exact h.sa | exact h.sb | exact h.sc | exact h.siptr | exact h.swptr | exact h.sslice
set_option maxHeartbeats 4000000 in
theorem SchedInterrupt_c (a b c ip sl hi : Int) (fault : Bool) (ha : I32 a) (hb : I32 b) (hc : I32 c) (hip : I32 ip) (hh : 0 ≤ hi ∧ hi < 256) : Con Try.prog f_l29_SchedInterrupt [.s (.int .i32 a), .s (.int .i32 b), .s (.int .i32 c), .s (.int .i32 ip), .s (.int .i32 sl), .s (.bool fault), .s (.int .u8 hi)] [] (.ret (.t (.s (.bool true))) []) := by
  intro K hK
  obtain ⟨N, hN, hN2, hN3⟩ : ∃ N : Nat, IntKind.i64.wrap (IntKind.i64.wrap (hi.tmod 20) + 1) = (N : Int) ∧ 1 ≤ N ∧ N ≤ 20 := by
    refine ⟨(hi % 20 + 1).toNat, ?_, by omega, by omega⟩
    rw [Int.tmod_eq_emod_of_nonneg hh.1, wrap64 (n := hi % 20) (by omega) (by omega), wrap64 (by omega) (by omega)]
    omega
  obtain ⟨s, hs, hsl⟩ : ∃ s, bits .and .i32 sl 1048575 = s ∧ I32 s := ⟨_, rfl, I32_wrap _⟩
  have hW := wasK_ok (fault := fault) ha hb hc hip hsl
  refine enter fn_l29_SchedInterrupt rfl nt_l29_SchedInterrupt rfl rfl (fun φ w0 β0 F => ?_)
  refine c_run tt_ok ctIn_ok k_l29_SchedInterrupt [100047, 100055] 90 (by kernel_rfl) ?_
  refine ⟨fun _ => ?_, fun h => absurd h (by decide)⟩
  refine ⟨30, ⟨rfl, by decide⟩, ?_⟩
  refine ⟨.t (.s (.int .i32 s)), fun β => told_i hs, rfl, ?_⟩
  refine ⟨.t (.s (.int .i64 (N : Int))), fun β => told_i hN, rfl, ?_⟩
  show WpC _ _ _ _ _
  obtain ⟨W, hWd⟩ : ∃ W, wasK a b c ip s fault = W := ⟨_, rfl⟩
  have hWb : W.busy = true := by rw [← hWd]; rfl
  have hWq : ∀ Q, (W.wq Q).fr false = fstQ Q ∧ (W.wq Q).bk false = lstQ Q := fun Q => ⟨rfl, rfl⟩
  refine c_loop (α := Nat × Ram) (fun x => x.1 ≤ N ∧ x.2.l.length = 2048 ∧ QI (W.wq (List.range x.1)) x.2 false (List.range x.1)) (fun x => N - x.1)
    (fun x => [(0, .t (.s (.int .i32 a)), none), (15, .t (.s (.loc 0 0)), none), (17, .t (.s (.loc 2 0)), none), (18, .t (.s (.loc 3 0)), none), (19, .t (.s (.int .i64 (N : Int))), none), (20, .t (.s (.int .i64 (x.1 : Int))), none)])
    (fun x => [.blk 52 [.sl 1 0 x.2.l.length x.2.l.length], mOwn x.2.l, .blk 32 (W.wq (List.range x.1)).sv, .blk 32 W.sv]) (0, Ram.zz) ?_ ?_ ?_
  · exact ⟨Nat.zero_le _, zz_len, ⟨rfl, rfl, trivial, List.nodup_nil, fun x hx => by simp at hx⟩⟩
  · rw [← hWd]
    exact into [0, 1, 2, 3] ⟨⟨_, rfl, rfl⟩, ⟨_, rfl, rfl⟩, ⟨_, rfl, rfl⟩, ⟨_, rfl, rfl⟩, ⟨_, rfl, rfl⟩, ⟨_, rfl, rfl⟩, trivial⟩ ⟨_, rfl, rfl⟩ rfl rfl rfl rfl
  rintro ⟨i, m⟩ ⟨hi, hl, hQ⟩
  simp only at hi hl hQ
  dsimp only
  obtain ⟨k, hk⟩ : ∃ k, W.wq (List.range i) = k := ⟨_, rfl⟩
  have hWok : W.ok := by rw [← hWd]; exact hW
  have hok : k.ok := by rw [← hk]; exact wq_ok hWok fun x hx => by have := List.mem_range.1 hx; omega
  rw [hk] at hQ ⊢
  refine c_run' tt_ok ctIn_ok k_l29_SchedInterrupt [] 90 (by kernel_rfl) (by kernel_rfl) ?_
  refine ⟨fun h1 => ?_, fun h1 => ?_⟩
  · have hlt : i < N := by have := of_decide_eq_true h1; omega
    have hj50 : i < 50 := by omega
    have hni : i ∉ List.range i := by simp
    obtain ⟨hA, hQ', hl'⟩ := app_law (o := false) hl hQ hj50 hni
    obtain ⟨k', hk'⟩ : ∃ k', W.wq (List.range (i + 1)) = k' := ⟨_, rfl⟩
    obtain ⟨m', hm'⟩ : ∃ m', appM m (List.range i) i = m' := ⟨_, rfl⟩
    have hkk : appK k false (List.range i) i = k' := by rw [← hk, ← hk']; exact wq_app W i
    rw [hkk, hm', ← List.range_succ] at hQ'
    rw [hkk, hm'] at hA
    rw [hm'] at hl'
    have hA' : appR k m (spc i) = (k', 0, m') := by
      have e : spc i = spc i + bif false then 1 else 0 := by simp
      rw [e]; exact hA
    refine c_merge [(0, .t (.s (.int .i32 a)), none), (15, .t (.s (.loc 0 0)), none), (17, .t (.s (.loc 2 0)), none), (18, .t (.s (.loc 3 0)), none), (19, .t (.s (.int .i64 (N : Int))), none), (20, .t (.s (.int .i64 (i : Int))), none), (21, .t (.s (.loc 4 0)), none), (22, .t (.s (.int .i64 0)), none)]
      [.blk 52 [.sl 1 0 m'.l.length m'.l.length], mOwn m'.l, .blk 32 k.sv, .blk 32 W.sv, .blk 32 k'.sv] (fun key => ?ways) ?cont
    case ways =>
      refine c_waysH tt_ok ctIn_ok k_l29_SchedInterrupt [2] rfl rfl rfl ?_
      repeat' (first | exact trivial | exact ⟨rfl, trivial⟩ | (refine Exists.intro i ?_; refine And.intro ⟨rfl, hj50⟩ ?_) | (refine Exists.intro (m, k', 0, m') ?_; refine And.intro ⟨rfl, rfl, rfl, rfl, ⟨hok, spc_I32 hj50⟩, hA'⟩ ?_) | (refine And.intro ?_ ?_) | (refine fun _ => ?_))
      all_goals
        refine WpE.into ?_ key
        exact into [0, 1, 2, 3, 4] ⟨⟨_, rfl, rfl⟩, ⟨_, rfl, rfl⟩, ⟨_, rfl, rfl⟩, ⟨_, rfl, rfl⟩, ⟨_, rfl, rfl⟩, ⟨_, rfl, rfl⟩, ⟨_, rfl, rfl⟩, ⟨_, rfl, rfl⟩, trivial⟩ ⟨_, rfl, rfl⟩ rfl rfl rfl rfl
    refine e_run tt_ok ctIn_ok k_l29_SchedInterrupt [] 90 (by kernel_rfl) ?_
    refine ⟨fun h => absurd h (by decide), fun _ => ?_⟩
    exact e_again (i + 1, m') ⟨by show i + 1 ≤ _; omega, hl', by dsimp only; rw [hk']; exact hQ'⟩ (by show N - (i + 1) < N - i; omega) (into [0, 1, 2, 3] ⟨⟨_, rfl, rfl⟩, ⟨_, rfl, rfl⟩, ⟨_, rfl, rfl⟩, ⟨_, rfl, rfl⟩, ⟨_, rfl, rfl⟩, ⟨_, rfl, fvi (wrapSucc (by omega))⟩, trivial⟩ ⟨_, rfl, by dsimp only; rw [hk']; rfl⟩ rfl rfl rfl rfl)
  · have hz : i = N := by have := of_decide_eq_false h1; omega
    subst hz
    show WpC _ _ _ _ _
    have hQr : QI k m false (List.range' 0 i) := by rw [← List.range_eq_range']; exact hQ
    refine c_loop (α := Nat × Core × Ram) (fun x => x.1 ≤ i ∧ x.2.2.l.length = 2048 ∧ Stage W i x.1 x.2.1 ∧ QI x.2.1 x.2.2 false (List.range' x.1 (i - x.1))) (fun x => i - x.1)
      (fun x => [(0, .t (.s (.int .i32 a)), none), (15, .t (.s (.loc 0 0)), none), (17, .t (.s (.loc 2 0)), none), (18, .t (.s (.loc 3 0)), none), (19, .t (.s (.int .i64 (i : Int))), none), (23, .t (.s (.int .i64 (x.1 : Int))), none)])
      (fun x => [.blk 52 [.sl 1 0 x.2.2.l.length x.2.2.l.length], mOwn x.2.2.l, .blk 32 x.2.1.sv, .blk 32 W.sv]) (0, k, m) ⟨Nat.zero_le _, hl, .inl ⟨rfl, by rw [← hk, List.range_eq_range']⟩, hQr⟩ ?_ ?_
    · exact into [0, 1, 2, 3] ⟨⟨_, rfl, rfl⟩, ⟨_, rfl, rfl⟩, ⟨_, rfl, rfl⟩, ⟨_, rfl, rfl⟩, ⟨_, rfl, rfl⟩, ⟨_, rfl, rfl⟩, trivial⟩ ⟨_, rfl, rfl⟩ rfl rfl rfl rfl
    rintro ⟨j, k, m⟩ ⟨hj, hl, hst, hQ⟩
    simp only at hj hl hst hQ
    dsimp only
    have hok := stage_ok hWok (by omega) hst hj
    refine c_run' tt_ok ctIn_ok k_l29_SchedInterrupt [100133] 90 (by kernel_rfl) (by kernel_rfl) ?_
    refine ⟨fun h1 => ?_, fun h1 => ?_⟩
    · have hlt : j < i := by have := of_decide_eq_true h1; omega
      have hj50 : j < 50 := by omega
      rw [← hWd] at hst
      obtain ⟨k1, hS, hok1, hw1, hp1, hs1, he1, m', hl', hE, hQ'⟩ := stage_step hW (by omega) hlt hl hst hQ
      rw [hWd] at hE hQ'
      obtain ⟨k2, hk2⟩ : ∃ k2, W.sav.wq (List.range' (j + 1) (i - (j + 1))) = k2 := ⟨_, rfl⟩
      rw [hk2] at hE hQ'
      have hE1 := hE (IntKind.i32.wrap (a + 1))
      refine ⟨(m, k1, 0), ⟨rfl, rfl, rfl, rfl, hok, hS⟩, ?_⟩
      show WpC _ _ _ _ _
      have hv : (bif bif bif bif (0 : Int) != 0 then true else k1.wptr != spc j then true else k1.pri != 0 then true else !k1.sis then true else k1.err) = false := by rw [hw1, hp1, hs1, he1]; simp
      refine c_merge [(0, .t (.s (.int .i32 a)), none), (15, .t (.s (.loc 0 0)), none), (17, .t (.s (.loc 2 0)), none), (18, .t (.s (.loc 3 0)), none), (19, .t (.s (.int .i64 (i : Int))), none), (23, .t (.s (.int .i64 (j : Int))), none), (24, .t (.s (.loc 4 0)), none), (106, .t (.s (.bool false)), none)]
        [.blk 52 [.sl 1 0 m.l.length m.l.length], mOwn m.l, .blk 32 k.sv, .blk 32 W.sv, .blk 32 k1.sv] (fun key => ?ways2) ?cont2
      case ways2 =>
        refine c_waysH tt_ok ctIn_ok k_l29_SchedInterrupt [4] rfl rfl rfl ?_
        repeat' (first | exact trivial | exact ⟨rfl, trivial⟩ | (intro h; exact absurd (show ((0 : Int) != 0) = true from h) (by decide)) | (refine Exists.intro j ?_; refine And.intro ⟨rfl, hj50⟩ ?_) | (intro h; exact absurd h (by decide)) | (refine And.intro ?_ ?_) | (refine fun _ => ?_))
        all_goals
          refine WpE.into ?_ key
          exact into [0, 1, 2, 3, 4] ⟨⟨_, rfl, rfl⟩, ⟨_, rfl, rfl⟩, ⟨_, rfl, rfl⟩, ⟨_, rfl, rfl⟩, ⟨_, rfl, rfl⟩, ⟨_, rfl, rfl⟩, ⟨_, rfl, rfl⟩, ⟨_, rfl, by show FV.t (.s (.bool (bif bif bif bif (0 : Int) != 0 then true else k1.wptr != spc j then true else k1.pri != 0 then true else !k1.sis then true else k1.err))) = _; rw [hv]; rfl⟩, trivial⟩ ⟨_, rfl, rfl⟩ rfl rfl rfl rfl
      refine e_run tt_ok ctIn_ok k_l29_SchedInterrupt [] 90 (by kernel_rfl) ?_
      refine ⟨fun h => absurd h (by decide), fun _ => ?_⟩
      show WpC _ _ _ _ _
      refine c_merge [(0, .t (.s (.int .i32 a)), none), (15, .t (.s (.loc 0 0)), none), (17, .t (.s (.loc 2 0)), none), (18, .t (.s (.loc 3 0)), none), (19, .t (.s (.int .i64 (i : Int))), none), (23, .t (.s (.int .i64 (j : Int))), none), (24, .t (.s (.loc 4 0)), none), (26, .t (.s (.int .i64 0)), none)]
        [.blk 52 [.sl 1 0 m'.l.length m'.l.length], mOwn m'.l, .blk 32 k.sv, .blk 32 W.sv, .blk 32 k2.sv] (fun key => ?ways3) ?cont3
      case ways3 =>
        refine c_waysH tt_ok ctIn_ok k_l29_SchedInterrupt [2, 3] rfl rfl rfl ?_
        repeat' (first | exact trivial | exact ⟨rfl, rfl, trivial⟩ | (refine Exists.intro (m, k2, 0, m') ?_; refine And.intro ⟨rfl, rfl, rfl, rfl, err_ok (a_ok hok1 (I32_wrap _)), hE1⟩ ?_) | (refine And.intro ?_ ?_) | (refine fun _ => ?_))
        all_goals
          refine WpE.into ?_ key
          exact into [0, 1, 2, 3, 4] ⟨⟨_, rfl, rfl⟩, ⟨_, rfl, rfl⟩, ⟨_, rfl, rfl⟩, ⟨_, rfl, rfl⟩, ⟨_, rfl, rfl⟩, ⟨_, rfl, rfl⟩, ⟨_, rfl, rfl⟩, ⟨_, rfl, rfl⟩, trivial⟩ ⟨_, rfl, rfl⟩ rfl rfl rfl rfl
      refine e_run tt_ok ctIn_ok k_l29_SchedInterrupt [] 90 (by kernel_rfl) ?_
      refine ⟨fun h => absurd h (by decide), fun _ => ?_⟩
      exact e_again (j + 1, k2, m') ⟨by show j + 1 ≤ _; omega, hl', .inr ⟨Nat.succ_pos _, hk2.symm⟩, hQ'⟩ (by show i - (j + 1) < i - j; omega) (into [0, 1, 2, 3] ⟨⟨_, rfl, rfl⟩, ⟨_, rfl, rfl⟩, ⟨_, rfl, rfl⟩, ⟨_, rfl, rfl⟩, ⟨_, rfl, rfl⟩, ⟨_, rfl, fvi (wrapSucc (by omega))⟩, trivial⟩ ⟨_, rfl, rfl⟩ rfl rfl rfl rfl)
    · have hz : j = i := by have := of_decide_eq_false h1; omega
      subst hz
      have hk0 : k = (wasK a b c ip s fault).sav.wq [] := by
        rcases hst with ⟨h, _⟩ | ⟨_, h⟩
        · omega
        · rw [h, hWd, Nat.sub_self]; rfl
      have hS : setR k m = (W, 0) := by rw [hk0, ← hWd]; exact stage_end
      refine ⟨(m, W, 0), ⟨rfl, rfl, rfl, rfl, hok, hS⟩, ?_⟩
      refine ⟨.t (.s (.bool true)), fun β => told_bl (by simp), rfl, ?_⟩
      refine ⟨fun _ => ?_, fun h => absurd h (by decide)⟩
      exact fin_k tt_ok (rs := rs_l29_SchedInterrupt) rfl rfl hK [] rfl rfl rfl rfl rfl rfl
end Go.Proofs
