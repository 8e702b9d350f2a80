/- Plain laws: Settle and Slice over queues. -/
import Derived.Test.YtckbmpoomamenaaWalkE

namespace Go.Proofs
open Go Go.Sx
set_option maxRecDepth 10000
theorem wrap4 {i : Nat} (h : i < 50) : IntKind.i32.wrap (spc i + -4) = spc i - 4 := by rw [IntKind.wrap_i32]; unfold spc; omega
/-- The core that runs the process i of priority o. -/
def runC (k : Core) (m : Ram) (o : Bool) (i : Nat) (Q : List Nat) : Core := { (takK k o Q).nobody with wptr := spc i, iptr := m.word (spc i - 4), pri := pO o, busy := true }
theorem fr_nobody (k : Core) (o : Bool) : k.nobody.fr o = k.fr o ∧ k.nobody.bk o = k.bk o := by cases o <;> exact ⟨rfl, rfl⟩
theorem sta_law {k : Core} {m : Ram} {o : Bool} {i : Nat} {Q : List Nat} (hl : m.l.length = 2048) (h : QI k m o (i :: Q)) : staR k m (pO o) = (runC k m o i Q, 0) ∧ QI (runC k m o i Q) m o Q := by
  obtain ⟨hT, hQ⟩ := tak_law hl h
  refine ⟨?_, hQ.keep (k' := runC k m o i Q) (by cases o <;> rfl) (by cases o <;> rfl) (fun _ _ => rfl)⟩
  unfold staR
  rw [hT]
  show (bif (0 : Int) != 0 then _ else _) = _
  rw [show ((0 : Int) != 0) = false from rfl, cond_false, wrap4 (h.lt i (by simp))]
  rfl
/-- Nobody runs, nobody waits above: the first of the low queue starts. -/
theorem set_low {k : Core} {m : Ram} {i : Nat} {Q : List Nat} (hl : m.l.length = 2048) (hb : k.busy = false) (hh : k.halted = false) (hp : priB k.pri = true) (hf : k.f0 = NP) (hs : k.sis = false) (h : QI k m true (i :: Q)) :
    setR k m = (runC k m true i Q, 0) := by
  have hf1 : (k.f1 == NP) = false := by
    have : k.f1 = spc i := h.f
    rw [this]; exact spc_np (h.lt i (by simp))
  have hhi : k.high = false := by unfold Core.high; rw [hf]; rfl
  unfold setR
  rw [hp, hh, hb, hhi, hs, hf1]
  exact (sta_law hl h).1
/-- Somebody runs below while somebody waits above: what runs is put away. -/
theorem set_high {k : Core} {m : Ram} {i : Nat} {Q : List Nat} (hl : m.l.length = 2048) (hb : k.busy = true) (hh : k.halted = false) (hp : k.pri = 1) (h : QI k m false (i :: Q)) :
    setR k m = (runC k.sav m false i Q, 0) := by
  have hf0 : (k.f0 == NP) = false := by
    have : k.f0 = spc i := h.f
    rw [this]; exact spc_np (h.lt i (by simp))
  have hhi : k.high = true := by unfold Core.high; rw [hf0]; rfl
  unfold setR
  rw [hp, hh, hb, hhi]
  exact (sta_law (k := k.sav) hl (h.keep rfl rfl fun _ _ => rfl)).1
/-- Nobody runs, somebody waits above. -/
theorem set_next {k : Core} {m : Ram} {i : Nat} {Q : List Nat} (hl : m.l.length = 2048) (hb : k.busy = false) (hh : k.halted = false) (hp : priB k.pri = true) (h : QI k m false (i :: Q)) :
    setR k m = (runC k m false i Q, 0) := by
  have hf0 : (k.f0 == NP) = false := by
    have : k.f0 = spc i := h.f
    rw [this]; exact spc_np (h.lt i (by simp))
  have hhi : k.high = true := by unfold Core.high; rw [hf0]; rfl
  unfold setR
  rw [hp, hh, hb, hhi]
  exact (sta_law hl h).1
/-- Nobody runs, nobody waits above: what was put away goes on. -/
theorem set_back {k : Core} {m : Ram} (hb : k.busy = false) (hh : k.halted = false) (hp : priB k.pri = true) (hf : k.f0 = NP) (hs : k.sis = true) : setR k m = (k.res, 0) := by
  have hhi : k.high = false := by unfold Core.high; rw [hf]; rfl
  unfold setR
  rw [hp, hh, hb, hhi, hs]
  rfl
theorem or_one {i : Nat} (h : i < 50) : bits .or .i32 (spc i) 1 = spc i + 1 := by
  have : ∀ i : Fin 50, bits .or .i32 (spc i.val) 1 = spc i.val + 1 := by decide +kernel
  exact this ⟨i, h⟩
theorem wait_law {k : Core} {m : Ram} {i : Nat} (hl : m.l.length = 2048) (hb : k.busy = true) (hw : k.wptr = spc i) (hi : i < 50) : waitE k m = 0 ∧ waitK k m = k.nobody ∧ waitM k m = m.set (spc i - 4) k.iptr := by
  have hE : waitE k m = 0 := by unfold waitE; rw [hb, hw, spc_valid hl hi]; rfl
  refine ⟨hE, ?_, ?_⟩
  · unfold waitK; rw [hE]; rfl
  · unfold waitM; rw [hE, hw, wrap4 hi]; rfl
theorem set4_keep {m : Ram} {i x : Nat} {v : Int} (hl : m.l.length = 2048) (hi : i < 50) (hx : x < 50) (hv : I32 v) : (m.set (spc i - 4) v).word (spc x - 8) = m.word (spc x - 8) := by
  rw [word_setB hl (spc_in hi (by decide) (by decide) (by decide)) (spc_in hx (by decide) (by decide) (by decide)) hv, if_neg (by unfold spc; omega)]
/-- A low process's slice is over while others wait: it goes to the end. -/
theorem sli_law {k : Core} {m : Ram} {i : Nat} {Q : List Nat} (hl : m.l.length = 2048) (hb : k.busy = true) (hp : k.pri = 1) (hs : 64 ≤ k.slice) (hw : k.wptr = spc i) (hi : i < 50) (h : QI k m true Q) (hQ : Q ≠ []) (hn : i ∉ Q) (hp4 : I32 k.iptr) :
    ∃ m', sliR k m = (appK k.nobody true Q i, 0, m') ∧ QI (appK k.nobody true Q i) m' true (Q ++ [i]) ∧ m'.l.length = 2048 ∧ m' = appM (m.set (spc i - 4) k.iptr) Q i := by
  obtain ⟨wE, wK, wM⟩ := wait_law (i := i) hl hb hw hi
  have hl1 : (m.set (spc i - 4) k.iptr).l.length = 2048 := (set_len _ _ _).trans hl
  have hQ1 : QI k.nobody (m.set (spc i - 4) k.iptr) true Q := h.keep rfl rfl fun x hx => set4_keep hl hi (h.lt x hx) hp4
  obtain ⟨hA, hQ2, hl2⟩ := app_law (o := true) hl1 hQ1 hi hn
  obtain ⟨j, hj, hjq⟩ := lstQ_mem hQ
  obtain ⟨a, t, rfl⟩ : ∃ a t, Q = a :: t := by
    cases Q with
    | nil => exact absurd rfl hQ
    | cons a t => exact ⟨a, t, rfl⟩
  have hf1 : (k.f1 == NP) = false := by
    have : k.f1 = spc a := h.f
    rw [this]; exact spc_np (h.lt a (by simp))
  have hb1 : k.b1 = spc j := by
    have : k.b1 = lstQ (a :: t) := h.b
    rw [this, hjq]
  refine ⟨_, ?_, hQ2, hl2, rfl⟩
  unfold sliR
  rw [hp, hb, show decide (k.slice < 64) = false by simp; omega, hf1, hw, hb1, spc_valid hl hi, spc_valid hl (h.lt j hj), wK, wM, or_one hi]
  exact hA
/-- The ring of N processes, turned i times. -/
def rotQ (N i : Nat) : List Nat := (List.range N).map fun j => (i + j) % N
def rotR (N i : Nat) : List Nat := (List.range (N - 1)).map fun j => (i + 1 + j) % N
theorem rotQ_head {N : Nat} (h : 1 ≤ N) (i : Nat) : rotQ N i = (i % N) :: rotR N i := by
  obtain ⟨M, rfl⟩ : ∃ M, N = M + 1 := ⟨N - 1, by omega⟩
  unfold rotQ rotR
  rw [List.range_succ_eq_map, List.map_cons, List.map_map, Nat.add_sub_cancel]
  congr 1
  apply List.map_congr_left
  intro j _
  show (i + (j + 1)) % (M + 1) = _
  rw [show i + (j + 1) = i + 1 + j by omega]
theorem rotQ_next {N : Nat} (h : 1 ≤ N) (i : Nat) : rotQ N (i + 1) = rotR N i ++ [i % N] := by
  obtain ⟨M, rfl⟩ : ∃ M, N = M + 1 := ⟨N - 1, by omega⟩
  unfold rotQ rotR
  rw [List.range_succ, List.map_append, List.map_singleton, Nat.add_sub_cancel]
  congr 2
  rw [show i + 1 + M = i + (M + 1) by omega, Nat.add_mod_right]
theorem rotQ_zero {N : Nat} : rotQ N 0 = List.range N := by
  unfold rotQ
  conv => rhs; rw [← List.map_id (List.range N)]
  apply List.map_congr_left
  intro j hj
  rw [Nat.zero_add]
  exact Nat.mod_eq_of_lt (List.mem_range.1 hj)
theorem rotR_ne {N : Nat} (h : 2 ≤ N) (i : Nat) : rotR N i ≠ [] := by
  obtain ⟨M, rfl⟩ : ∃ M, N = M + 2 := ⟨N - 2, by omega⟩
  unfold rotR
  rw [show M + 2 - 1 = M + 1 by omega, List.range_succ_eq_map]
  simp
theorem tmod_nat (i N : Nat) : ((i : Int).tmod (N : Int)) = ((i % N : Nat) : Int) := by
  rw [Int.tmod_eq_emod_of_nonneg (by omega)]; simp
end Go.Proofs

namespace Go.Proofs
open Go Go.Sx
set_option maxRecDepth 10000
noncomputable abbrev ctTu : CT := [(f_mem_New, eNew), (f_mem_Mem_Word, eWordT), (f_r29_Reset, eReset), (f_sched_Append, eAppend), (f_sched_Settle, eSettle), (f_sched_Slice, eSlice), (f_l29_space, eSpace), (f_l29_head, eHead)]
theorem ctTu_ok : CTok Try.prog ctTu := ⟨con_ok cal_mem_New _, con_ok cal_mem_Mem_Word _, con_ok cal_r29_Reset _, con_ok cal_sched_Append _, con_ok cal_sched_Settle _, con_ok cal_sched_Slice _, con_ok cal_l29_space _, con_ok cal_l29_head _, trivial⟩
/-- Nobody runs, nobody waits above. -/
structure Idle (k : Core) : Prop where
  b : k.busy = false
  h : k.halted = false
  p : priB k.pri = true
  f : k.f0 = NP
  s : k.sis = false
theorem appK_idle {k : Core} {Q : List Nat} {i : Nat} (h : Idle k) : Idle (appK k true Q i) := by
  cases Q <;> exact ⟨h.b, h.h, h.p, h.f, h.s⟩
theorem slice_ok {k : Core} (h : k.ok) {v : Int} (hv : I32 v) : ({ k with slice := v } : Core).ok := by
  constructor <;> first | exact hv | exact h.a | exact h.b | exact h.c | exact h.iptr | exact h.wptr | exact h.pri | exact h.f0 | exact h.f1 | exact h.b0 | exact h.b1 | exact h.t0 | exact h.t1 | exact h.k0 | exact h.k1 | exact h.ticks | exact h.sa | exact h.sb | exact h.sc | exact h.siptr | exact h.swptr | exact h.sslice
theorem iptr_ok {k : Core} (h : k.ok) {v : Int} (hv : I32 v) : ({ k with iptr := v } : Core).ok := by
  constructor <;> first | exact hv | exact h.a | exact h.b | exact h.c | exact h.wptr | exact h.pri | exact h.f0 | exact h.f1 | exact h.b0 | exact h.b1 | exact h.t0 | exact h.t1 | exact h.k0 | exact h.k1 | exact h.ticks | exact h.slice | exact h.sa | exact h.sb | exact h.sc | exact h.siptr | exact h.swptr | exact h.sslice
theorem takK_ok {k : Core} {o : Bool} {Q : List Nat} (h : k.ok) (hQ : ∀ x ∈ Q, x < 50) : (takK k o Q).ok := by
  have hnp : I32 NP := by unfold I32 NP; omega
  cases Q with
  | nil => exact setB_ok (setF_ok h o hnp) o hnp
  | cons a t => exact setF_ok h o (spc_I32 (hQ a (by simp)))
theorem runC_ok {k : Core} {m : Ram} {o : Bool} {i : Nat} {Q : List Nat} (hk : k.ok) (hi : i < 50) (hQ : ∀ x ∈ Q, x < 50) : (runC k m o i Q).ok := by
  have h := nobody_ok (takK_ok (o := o) hk hQ)
  have hp : -9223372036854775808 ≤ pO o ∧ pO o ≤ 9223372036854775807 := by cases o <;> exact ⟨by decide, by decide⟩
  constructor <;> first | exact spc_I32 hi | exact word_I32 _ _ | exact hp | exact h.a | exact h.b | exact h.c | exact h.f0 | exact h.f1 | exact h.b0 | exact h.b1 | exact h.t0 | exact h.t1 | exact h.k0 | exact h.k1 | exact h.ticks | exact h.slice | exact h.sa | exact h.sb | exact h.sc | exact h.siptr | exact h.swptr | exact h.sslice
theorem appM_ne {m : Ram} {Q : List Nat} {i : Nat} (h : Q ≠ []) : appM m Q i = m.set (lstQ Q - 8) (spc i) := by
  cases Q with
  | nil => exact absurd rfl h
  | cons a t => rfl
theorem takK_halted {k : Core} {o : Bool} {Q : List Nat} : (takK k o Q).halted = k.halted := by cases Q <;> cases o <;> rfl
theorem takK_sis {k : Core} {o : Bool} {Q : List Nat} : (takK k o Q).sis = k.sis := by cases Q <;> cases o <;> rfl
theorem takK_f0 {k : Core} {Q : List Nat} : (takK k true Q).f0 = k.f0 := by cases Q <;> rfl
theorem runC_halted {k : Core} {m : Ram} {o : Bool} {i : Nat} {Q : List Nat} (h : k.halted = false) : (runC k m o i Q).halted = false := takK_halted.trans h
theorem runC_sis {k : Core} {m : Ram} {o : Bool} {i : Nat} {Q : List Nat} (h : k.sis = false) : (runC k m o i Q).sis = false := takK_sis.trans h
theorem runC_f0 {k : Core} {m : Ram} {i : Nat} {Q : List Nat} (h : k.f0 = NP) : (runC k m true i Q).f0 = NP := takK_f0.trans h
set_option maxHeartbeats 4000000 in
theorem SchedTurns_c (n t : Int) (hn : 0 ≤ n ∧ n < 256) (ht : 0 ≤ t ∧ t < 256) : Con Try.prog f_l29_SchedTurns [.s (.int .u8 n), .s (.int .u8 t)] [] (.ret (.t (.s (.bool true))) []) := by
  intro K hK
  obtain ⟨N, hN, hN2, hN3⟩ : ∃ N : Nat, IntKind.i64.wrap (IntKind.i64.wrap (n.tmod 19) + 2) = (N : Int) ∧ 2 ≤ N ∧ N ≤ 20 := by
    refine ⟨(n % 19 + 2).toNat, ?_, by omega, by omega⟩
    rw [Int.tmod_eq_emod_of_nonneg hn.1, wrap64 (n := n % 19) (by omega) (by omega), wrap64 (by omega) (by omega)]
    omega
  refine enter fn_l29_SchedTurns rfl nt_l29_SchedTurns rfl rfl (fun φ w0 β0 F => ?_)
  refine c_run tt_ok ctTu_ok k_l29_SchedTurns [100022] 90 (by kernel_rfl) ?_
  refine ⟨.t (.s (.int .i64 (N : Int))), fun β => told_i hN, rfl, ?_⟩
  refine ⟨fun _ => ?_, fun h => absurd h (by decide)⟩
  show WpC _ _ _ _ _
  refine c_loop (α := Nat × Core × Ram) (fun x => x.1 ≤ N ∧ x.2.1.ok ∧ Idle x.2.1 ∧ x.2.2.l.length = 2048 ∧ QI x.2.1 x.2.2 true (List.range x.1)) (fun x => N - x.1)
    (fun x => [(1, .t (.s (.int .u8 t)), none), (5, .t (.s (.int .i64 (N : Int))), none), (6, .t (.s (.loc 0 0)), none), (8, .t (.s (.loc 2 0)), none), (9, .t (.s (.int .i64 (x.1 : Int))), none)])
    (fun x => [.blk 52 [.sl 1 0 x.2.2.l.length x.2.2.l.length], mOwn x.2.2.l, .blk 32 x.2.1.sv]) (0, K0, Ram.zz) ?_ ?_ ?_
  · exact ⟨Nat.zero_le _, K0_ok, ⟨rfl, rfl, rfl, rfl, rfl⟩, zz_len, QI_zero true _⟩
  · exact into [0, 1, 2] ⟨⟨_, rfl, rfl⟩, ⟨_, rfl, rfl⟩, ⟨_, rfl, rfl⟩, ⟨_, rfl, rfl⟩, ⟨_, rfl, rfl⟩, trivial⟩ ⟨_, rfl, rfl⟩ rfl rfl rfl rfl
  rintro ⟨i, k, m⟩ ⟨hi, hok, hid, hl, hQ⟩
  simp only at hi hok hid hl hQ
  dsimp only
  refine c_run' tt_ok ctTu_ok k_l29_SchedTurns [] 90 (by kernel_rfl) (by kernel_rfl) ?_
  refine ⟨fun h1 => ?_, fun h1 => ?_⟩
  · have hlt : i < N := by have := of_decide_eq_true h1; omega
    have hj50 : i < 50 := by omega
    have hni : i ∉ List.range i := by simp
    obtain ⟨hA, hQ', hl'⟩ := app_law (o := true) hl hQ hj50 hni
    obtain ⟨k', hk'⟩ : ∃ k', appK k true (List.range i) i = k' := ⟨_, rfl⟩
    obtain ⟨m', hm'⟩ : ∃ m', appM m (List.range i) i = m' := ⟨_, rfl⟩
    have hok' : k'.ok := by rw [← hk']; exact appK_ok hok hj50
    have hid' : Idle k' := by rw [← hk']; exact appK_idle hid
    rw [hk', hm', ← List.range_succ] at hQ'
    rw [hk', hm'] at hA
    rw [hm'] at hl'
    have hd : IntKind.i32.wrap (spc i + 1) = spc i + bif true then 1 else 0 := by
      simp only [IntKind.wrap_i32, cond_true]; unfold spc; omega
    have hA' : appR k m (IntKind.i32.wrap (spc i + 1)) = (k', 0, m') := by rw [hd]; exact hA
    have hdI : I32 (IntKind.i32.wrap (spc i + 1)) := I32_wrap _
    refine c_merge [(1, .t (.s (.int .u8 t)), none), (5, .t (.s (.int .i64 (N : Int))), none), (6, .t (.s (.loc 0 0)), none), (8, .t (.s (.loc 2 0)), none), (9, .t (.s (.int .i64 (i : Int))), none), (10, .t (.s (.loc 3 0)), none), (11, .t (.s (.int .i64 0)), none)]
      [.blk 52 [.sl 1 0 m'.l.length m'.l.length], mOwn m'.l, .blk 32 k.sv, .blk 32 k'.sv] (fun key => ?ways) ?cont
    case ways =>
      refine c_waysH tt_ok ctTu_ok k_l29_SchedTurns [2] rfl rfl rfl ?_
      repeat' (first | exact trivial | exact ⟨rfl, trivial⟩ | (refine Exists.intro i ?_; refine And.intro ⟨rfl, hj50⟩ ?_) | (refine Exists.intro (m, k', 0, m') ?_; refine And.intro ⟨rfl, rfl, rfl, rfl, ⟨hok, hdI⟩, hA'⟩ ?_) | (refine And.intro ?_ ?_) | (refine fun _ => ?_))
      all_goals
        refine WpE.into ?_ key
        exact into [0, 1, 2, 3] ⟨⟨_, rfl, rfl⟩, ⟨_, rfl, rfl⟩, ⟨_, rfl, rfl⟩, ⟨_, rfl, rfl⟩, ⟨_, rfl, rfl⟩, ⟨_, rfl, rfl⟩, ⟨_, rfl, rfl⟩, trivial⟩ ⟨_, rfl, rfl⟩ rfl rfl rfl rfl
    refine e_run tt_ok ctTu_ok k_l29_SchedTurns [] 90 (by kernel_rfl) ?_
    refine ⟨fun h => absurd h (by decide), fun _ => ?_⟩
    exact e_again (i + 1, k', m') ⟨by show i + 1 ≤ _; omega, hok', hid', hl', hQ'⟩ (by show N - (i + 1) < N - i; omega) (into [0, 1, 2] ⟨⟨_, rfl, rfl⟩, ⟨_, rfl, rfl⟩, ⟨_, rfl, rfl⟩, ⟨_, rfl, rfl⟩, ⟨_, rfl, fvi (wrapSucc (by omega))⟩, trivial⟩ ⟨_, rfl, rfl⟩ rfl rfl rfl rfl)
  · have hz : i = N := by have := of_decide_eq_false h1; omega
    subst hz
    show WpC _ _ _ _ _
    obtain ⟨T, hT⟩ : ∃ T : Nat, IntKind.i64.wrap (t.tmod 60) = (T : Int) ∧ T < 60 := by
      refine ⟨(t % 60).toNat, ?_, by omega⟩
      rw [Int.tmod_eq_emod_of_nonneg ht.1, wrap64 (by omega) (by omega)]
      omega
    refine c_loop (α := Nat × Core × Ram) (fun x => x.1 ≤ T ∧ x.2.1.ok ∧ Idle x.2.1 ∧ x.2.2.l.length = 2048 ∧ QI x.2.1 x.2.2 true (rotQ i x.1)) (fun x => T - x.1)
      (fun x => [(1, .t (.s (.int .u8 t)), none), (5, .t (.s (.int .i64 (i : Int))), none), (6, .t (.s (.loc 0 0)), none), (8, .t (.s (.loc 2 0)), none), (12, .t (.s (.int .i64 (x.1 : Int))), none)])
      (fun x => [.blk 52 [.sl 1 0 x.2.2.l.length x.2.2.l.length], mOwn x.2.2.l, .blk 32 x.2.1.sv]) (0, k, m) ⟨Nat.zero_le _, hok, hid, hl, by rw [rotQ_zero]; exact hQ⟩ ?_ ?_
    · exact into [0, 1, 2] ⟨⟨_, rfl, rfl⟩, ⟨_, rfl, rfl⟩, ⟨_, rfl, rfl⟩, ⟨_, rfl, rfl⟩, ⟨_, rfl, rfl⟩, trivial⟩ ⟨_, rfl, rfl⟩ rfl rfl rfl rfl
    rintro ⟨j, k, m⟩ ⟨hj, hok, hid, hl, hQ⟩
    simp only at hj hok hid hl hQ
    dsimp only
    refine c_run' tt_ok ctTu_ok k_l29_SchedTurns [100048] 90 (by kernel_rfl) (by kernel_rfl) ?_
    refine ⟨.t (.s (.int .i64 (T : Int))), fun β => told_i hT.1, rfl, ?_⟩
    refine ⟨fun h1 => ?_, fun h1 => ?_⟩
    · have hlt : j < T := by have := of_decide_eq_true h1; omega
      rw [rotQ_head (by omega)] at hQ
      have ha50 := hQ.lt (j % i) (by simp)
      have hS := set_low hl hid.b hid.h hid.p hid.f hid.s hQ
      have hQ1 := (sta_law hl hQ).2
      obtain ⟨k1, hk1⟩ : ∃ k1, runC k m true (j % i) (rotR i j) = k1 := ⟨_, rfl⟩
      have hok1 : k1.ok := by rw [← hk1]; exact runC_ok hok ha50 (fun x hx => hQ.lt x (List.mem_cons_of_mem _ hx))
      have hw1 : k1.wptr = spc (j % i) := by rw [← hk1]; rfl
      have hp1 : k1.pri = 1 := by rw [← hk1]; rfl
      have hs1 : k1.slice = 0 := by rw [← hk1]; rfl
      have hb1 : k1.busy = true := by rw [← hk1]; rfl
      have hh1 : k1.halted = false := by rw [← hk1]; exact runC_halted (m := m) (i := j % i) hid.h
      have hf1 : k1.f0 = NP := by rw [← hk1]; exact runC_f0 (m := m) (i := j % i) hid.f
      have hz1 : k1.sis = false := by rw [← hk1]; exact runC_sis (m := m) (i := j % i) hid.s
      rw [hk1] at hS hQ1
      refine ⟨(m, k1, 0), ⟨rfl, rfl, rfl, rfl, hok, hS⟩, ?_⟩
      show WpC _ _ _ _ _
      have hi0 : (i : Int) ≠ 0 := by omega
      have hv : (bif bif bif (0 : Int) != 0 then true else k1.wptr != spc (j % i) then true else k1.pri != 1 then true else k1.slice != 0) = false := by rw [hw1, hp1, hs1]; simp
      refine c_merge [(1, .t (.s (.int .u8 t)), none), (5, .t (.s (.int .i64 (i : Int))), none), (6, .t (.s (.loc 0 0)), none), (8, .t (.s (.loc 2 0)), none), (12, .t (.s (.int .i64 (j : Int))), none), (13, .t (.s (.loc 3 0)), none), (78, .t (.s (.bool false)), none)]
        [.blk 52 [.sl 1 0 m.l.length m.l.length], mOwn m.l, .blk 32 k.sv, .blk 32 k1.sv] (fun key => ?ways2) ?cont2
      case ways2 =>
        refine c_waysH tt_ok ctTu_ok k_l29_SchedTurns [3] rfl rfl rfl ?_
        repeat' (first | exact trivial | exact ⟨rfl, trivial⟩ | exact (fun _ => hi0) | (intro h; exact absurd (show ((0 : Int) != 0) = true from h) (by decide)) | (refine Exists.intro (j % i) ?_; refine And.intro ⟨tmod_nat j i, ha50⟩ ?_) | (intro h; exact absurd h (by decide)) | (refine And.intro ?_ ?_) | (refine fun _ => ?_))
        all_goals
          refine WpE.into ?_ key
          exact into [0, 1, 2, 3] ⟨⟨_, rfl, rfl⟩, ⟨_, rfl, rfl⟩, ⟨_, rfl, rfl⟩, ⟨_, rfl, rfl⟩, ⟨_, rfl, rfl⟩, ⟨_, rfl, rfl⟩, ⟨_, rfl, by show FV.t (.s (.bool (bif bif bif (0 : Int) != 0 then true else k1.wptr != spc (j % i) then true else k1.pri != 1 then true else k1.slice != 0))) = _; rw [hv]; rfl⟩, trivial⟩ ⟨_, rfl, rfl⟩ rfl rfl rfl rfl
      refine e_run tt_ok ctTu_ok k_l29_SchedTurns [100092] 90 (by kernel_rfl) ?_
      refine ⟨fun h => absurd h (by decide), fun _ => ?_⟩
      obtain ⟨k2, hk2⟩ : ∃ k2 : Core, { k1 with slice := 63 } = k2 := ⟨_, rfl⟩
      have hS2 : sliR { k1 with slice := 63 } m = ({ k1 with slice := 63 }, 0, m) := by
        unfold sliR
        rw [show priB ({ k1 with slice := 63 } : Core).pri = true by show priB k1.pri = true; rw [hp1]; rfl,
          show (bif bif bif !({ k1 with slice := 63 } : Core).busy then true else ({ k1 with slice := 63 } : Core).pri == 0 then true else decide (({ k1 with slice := 63 } : Core).slice < 64) then true else ({ k1 with slice := 63 } : Core).f1 == NP) = true by
            show (bif bif bif !k1.busy then true else k1.pri == 0 then true else decide ((63 : Int) < 64) then true else k1.f1 == NP) = true
            rw [hb1, hp1]; rfl]
        rfl
      refine ⟨(m, { k1 with slice := 63 }, 0, m), ⟨rfl, rfl, rfl, rfl, slice_ok hok1 (by unfold I32; decide), hS2⟩, ?_⟩
      refine ⟨.t (.s (.bool false)), fun β => told_bl (by simp), rfl, ?_⟩
      refine ⟨fun h => absurd h (by decide), fun _ => ?_⟩
      have hjw : IntKind.i32.wrap (j : Int) = (j : Int) := by rw [IntKind.wrap_i32]; omega
      have hR : rotR i j ≠ [] := rotR_ne hN2 j
      have hni : j % i ∉ rotR i j := (List.nodup_cons.1 hQ.nd).1
      obtain ⟨m2, hS3, hQ3, hl3, hm2⟩ := sli_law (k := { k1 with slice := 64, iptr := IntKind.i32.wrap (j : Int) }) hl hb1 hp1 (by show (64 : Int) ≤ 64; decide) hw1 ha50 (hQ1.keep rfl rfl fun _ _ => rfl) hR hni (I32_wrap _)
      obtain ⟨k3, hk3⟩ : ∃ k3, appK (Core.nobody { k1 with slice := 64, iptr := IntKind.i32.wrap (j : Int) }) true (rotR i j) (j % i) = k3 := ⟨_, rfl⟩
      rw [hk3] at hS3 hQ3
      refine ⟨(m, k3, 0, m2), ⟨rfl, rfl, rfl, rfl, iptr_ok (slice_ok hok1 (v := 64) (by unfold I32; decide)) (I32_wrap _), hS3⟩, ?_⟩
      have hid3 : Idle k3 := by rw [← hk3]; exact appK_idle ⟨rfl, hh1, rfl, hf1, hz1⟩
      have hok3 : k3.ok := by rw [← hk3]; exact appK_ok (nobody_ok (iptr_ok (slice_ok hok1 (v := 64) (by unfold I32; decide)) (I32_wrap _))) ha50
      have hb3 : k3.busy = false := hid3.b
      obtain ⟨q, hq, hqe⟩ := lstQ_mem hR
      have hq50 : q < 50 := hQ.lt q (List.mem_cons_of_mem _ hq)
      have hw2 : m2.word (IntKind.i32.wrap (spc (j % i) + -4)) = (j : Int) := by
        rw [wrap4 ha50, hm2, appM_ne hR, hqe, word_setB ((set_len _ _ _).trans hl) (spc_in hq50 (by decide) (by decide) (by decide)) (spc_in ha50 (by decide) (by decide) (by decide)) (spc_I32 ha50), if_neg (by unfold spc; omega),
          word_setB hl (spc_in ha50 (by decide) (by decide) (by decide)) (spc_in ha50 (by decide) (by decide) (by decide)) (I32_wrap _), if_pos rfl]
        exact hjw
      refine ⟨hi0, j % i, ⟨tmod_nat j i, ha50⟩, ?_⟩
      refine ⟨m2, ⟨rfl, rfl, rfl, rfl, I32_wrap _⟩, ?_⟩
      have hcf : (bif bif (0 : Int) != 0 then true else k3.busy then true else m2.word (IntKind.i32.wrap (spc (j % i) - 4)) != IntKind.i32.wrap (j : Int)) = false := by
        rw [show spc (j % i) - 4 = spc (j % i) + -4 by omega, hw2, hjw, hb3]; simp
      refine ⟨fun h => absurd (h.symm.trans hcf) (by decide), fun _ => ?_⟩
      exact e_again (j + 1, k3, m2) ⟨by show j + 1 ≤ _; omega, hok3, hid3, hl3, by rw [rotQ_next (by omega)]; exact hQ3⟩ (by show T - (j + 1) < T - j; omega) (into [0, 1, 2] ⟨⟨_, rfl, rfl⟩, ⟨_, rfl, rfl⟩, ⟨_, rfl, rfl⟩, ⟨_, rfl, rfl⟩, ⟨_, rfl, fvi (wrapSucc (by omega))⟩, trivial⟩ ⟨_, rfl, rfl⟩ rfl rfl rfl rfl)
    · exact fin_k tt_ok (rs := rs_l29_SchedTurns) rfl rfl hK [] rfl rfl rfl rfl rfl rfl
end Go.Proofs
