/- run: instructions one after the other. -/
import Derived.Test.YtgmjidajikhimaaGreatWalkF
import Derived.Test.YtgmjidajikhimaaGreatWalkA
import Derived.Test.YtgmjidajikhimaaGreatWalkE

namespace Go.Proofs
open Go Go.Sx
set_option maxRecDepth 10000
/-- cpu.Exec: what comes out is told by the caller. -/
noncomputable abbrev eExec : Ent := .st (conS (P := Tryz.prog) (f := f_cpu_Exec) fun cargs σ0 => match cargs, σ0 with
  | [.agg cs, .s (.loc 0 0), .agg [.int .u8 fn, .int .i32 o]], [.blk 63 [.sl 1 0 n n'], .own 5 1 c xs] => withCore cs fun k hk => some ⟨.ex (Ram × Core × Int × Ram) fun p => .ask (n = p.1.l.length ∧ n' = p.1.l.length ∧ c = p.1.l.length ∧ xs = bytesI p.1.l ∧ (k.ok ∧ I32 o) ∧ exP k p.1 fn o = p.2)
      (.ret (.tup [.agg p.2.1.sv, .s (.int .i64 p.2.2.1)]) [mBox p.2.2.2.l.length, mOwn p.2.2.2.l]), fun K h => by
      obtain ⟨⟨m, k', e', m'⟩, ⟨e1, e2, e3, e4, ⟨h1, h3⟩, h2⟩, h⟩ := h
      dsimp only at e1 e2 e3 e4 h2 h
      subst e1; subst e2; subst e3; subst e4; subst hk
      refine Exec_c k m fn o h1 h3 K ?_
      rw [h2]; exact h⟩
  | _, _ => none)
noncomputable abbrev ctRn : CT := [(f_cpu_Exec, eExec)]
theorem ctRn_ok : CTok Tryz.prog ctRn := ⟨con_ok cal_cpu_Exec _, trivial⟩
def insV : List (Int × Int) → List Value
  | [] => []
  | p :: t => .int .u8 p.1 :: .int .i32 p.2 :: insV t
def insC (l : List (Int × Int)) : Ch := .own 29 2 l.length (insV l)
theorem insV_len : ∀ l : List (Int × Int), (insV l).length = l.length * 2
  | [] => rfl
  | _ :: t => by show (insV t).length + 2 = _; rw [insV_len t]; simp only [List.length_cons]; omega
theorem ins_row : ∀ {l : List (Int × Int)} {i : Nat} {p : Int × Int}, l[i]? = some p → seg (insV l) (i * 2) 2 = [.int .u8 p.1, .int .i32 p.2]
  | [], i, p, h => by simp at h
  | q :: t, 0, p, h => by simp at h; subst h; rfl
  | q :: t, i + 1, p, h => by
    have := ins_row (l := t) (i := i) (p := p) (by simpa using h)
    rw [show (i + 1) * 2 = i * 2 + 1 + 1 by omega]
    exact this
def runR : Core → Ram → List (Int × Int) → Core × Int × Ram
  | k, m, [] => (k, 0, m)
  | k, m, p :: t => bif (exP k m p.1 p.2).2.1 != 0 then (k, (exP k m p.1 p.2).2.1, (exP k m p.1 p.2).2.2) else runR (exP k m p.1 p.2).1 (exP k m p.1 p.2).2.2 t
theorem runR_cons {k : Core} {m : Ram} {p : Int × Int} {t : List (Int × Int)} {k' : Core} {m' : Ram} (h : exP k m p.1 p.2 = (k', 0, m')) : runR k m (p :: t) = runR k' m' t := by
  show (bif _ then _ else _) = _
  rw [h]; rfl
theorem run_c (k : Core) (m : Ram) (l : List (Int × Int)) (hok : k.ok) (hl : ∀ p ∈ l, I32 p.2) (hn : l.length ≤ 1000) :
    Con Tryz.prog f_l28_run [.agg k.sv, .s (.loc 0 0), .s (.sl 1 0 l.length l.length)] [mBox2 m.l.length, insC l, mOwn m.l]
    (.ret (.tup [.agg (runR k m l).1.sv, .s (.int .i64 (runR k m l).2.1)]) [mBox2 (runR k m l).2.2.l.length, insC l, mOwn (runR k m l).2.2.l]) := by
  intro K hK
  refine enter fn_l28_run rfl nt_l28_run rfl rfl (fun φ w0 β0 F => ?_)
  refine c_run tt_ok ctRn_ok k_l28_run [] 60 (by kernel_rfl) ?_
  refine c_loop (α := Nat × Core × Ram) (fun x => x.1 ≤ l.length ∧ x.2.1.ok ∧ runR k m l = runR x.2.1 x.2.2 (l.drop x.1)) (fun x => l.length - x.1)
    (fun x => [(1, .t (.s (.loc 0 0)), none), (3, .t (.s (.loc 3 0)), none), (6, .t (.s (.loc 4 0)), none), (12, .t (.s (.sl 1 0 l.length l.length)), none), (13, .t (.s (.int .i64 (l.length : Int))), none), (14, .t (.s (.int .i64 (x.1 : Int))), none)])
    (fun x => [mBox2 x.2.2.l.length, insC l, mOwn x.2.2.l, .blk 26 x.2.1.sv, .blk 26 Core.zero.sv]) (0, k, m) ⟨Nat.zero_le _, hok, rfl⟩ ?_ ?_
  · exact into [0, 1, 2, 3, 4] ⟨⟨_, rfl, rfl⟩, ⟨_, rfl, rfl⟩, ⟨_, rfl, rfl⟩, ⟨_, rfl, rfl⟩, ⟨_, rfl, rfl⟩, ⟨_, rfl, rfl⟩, trivial⟩ ⟨_, rfl, rfl⟩ rfl rfl rfl rfl
  · rintro ⟨i, k1, m1⟩ ⟨hi, hk1, he⟩
    simp only at hi hk1 he
    dsimp only
    refine c_run' tt_ok ctRn_ok k_l28_run [] 60 (by kernel_rfl) (by kernel_rfl) ?_
    refine ⟨fun h => ?_, fun h => ?_⟩
    · have hil : i < l.length := by have := of_decide_eq_true h; omega
      obtain ⟨p, hp⟩ : ∃ p, l[i]? = some p := ⟨_, List.getElem?_eq_getElem hil⟩
      obtain ⟨f, o⟩ := p
      have hrow := ins_row hp
      have ho : I32 o := hl _ (List.mem_of_getElem? hp)
      have hd : l.drop i = (f, o) :: l.drop (i + 1) := by
        rw [List.drop_eq_getElem_cons hil]; congr 1
        rw [List.getElem?_eq_getElem hil] at hp; exact Option.some.inj hp
      refine ⟨i, ⟨rfl, hil, by show 0 + (i + 1) * 2 ≤ _; rw [insV_len]; omega⟩, [.int .u8 f, .int .i32 o], rfl, ⟨Nat.le_refl 2, by rw [show 0 + i * (1 + 1) = i * 2 by omega]; exact hrow⟩, ?_⟩
      rcases hx : exP k1 m1 f o with ⟨k2, e2, m2⟩
      have hk2 : k2.ok := by have := exP_ok (m := m1) (fn := f) hk1 ho; rw [hx] at this; exact this
      obtain ⟨p0, p1, p2, p3, p4, p5, p6, p7, p8, p9, p10, p11, p12, p13, p14, p15, p16, p17, p18, p19, p20, p21, p22, p23, p24, p25, p26, p27⟩ := k2
      refine ⟨(m1, ⟨p0, p1, p2, p3, p4, p5, p6, p7, p8, p9, p10, p11, p12, p13, p14, p15, p16, p17, p18, p19, p20, p21, p22, p23, p24, p25, p26, p27⟩, e2, m2), ⟨rfl, rfl, rfl, rfl, ⟨hk1, ho⟩, hx⟩, fun h2 => ?_, fun h2 => ?_⟩
      · have hr : runR k m l = (k1, e2, m2) := by
          rw [he, hd]
          show (bif _ then _ else _) = _
          rw [hx]
          show (bif e2 != 0 then _ else _) = _
          rw [show (e2 != 0) = true from h2]; rfl
        rw [hr] at hK
        exact fin_k tt_ok (rs := rs_l28_run) rfl rfl hK [0, 1, 2] rfl rfl rfl rfl rfl rfl
      · have he2 : e2 = 0 := by have : (e2 != 0) = false := h2; simpa using this
        subst he2
        refine e_again (i + 1, ⟨p0, p1, p2, p3, p4, p5, p6, p7, p8, p9, p10, p11, p12, p13, p14, p15, p16, p17, p18, p19, p20, p21, p22, p23, p24, p25, p26, p27⟩, m2) ⟨by omega, hk2, by rw [he, hd]; exact runR_cons hx⟩ (by show l.length - (i + 1) < l.length - i; omega) ?_
        exact into [0, 1, 2, 3, 4] ⟨⟨_, rfl, rfl⟩, ⟨_, rfl, rfl⟩, ⟨_, rfl, rfl⟩, ⟨_, rfl, rfl⟩, ⟨_, rfl, rfl⟩, ⟨_, rfl, fvi (wrapSucc (by omega))⟩, trivial⟩ ⟨_, rfl, rfl⟩ rfl rfl rfl rfl
    · have hge : i = l.length := by have := of_decide_eq_false h; omega
      have hr : runR k m l = (k1, 0, m1) := by rw [he, hge, List.drop_length]; rfl
      rw [hr] at hK
      exact fin_k tt_ok (rs := rs_l28_run) rfl rfl hK [0, 1, 2] rfl rfl rfl rfl rfl rfl
def insOk : List (Int × Int) → Prop
  | [] => True
  | p :: t => I32 p.2 ∧ insOk t
theorem insOk_all : ∀ {l : List (Int × Int)}, insOk l → ∀ p ∈ l, I32 p.2
  | [], _, p, h => by simp at h
  | q :: t, h, p, hp => by
    rcases List.mem_cons.1 hp with rfl | h'
    · exact h.1
    · exact insOk_all h.2 p h'
noncomputable abbrev eRun : Ent := .st (conS (P := Tryz.prog) (f := f_l28_run) fun cargs σ0 => match cargs, σ0 with
  | [.agg cs, .s (.loc 0 0), .s (.sl 1 0 a a')], [.blk 63 [.sl 2 0 n n'], .own 29 2 c2 ys, .own 5 1 c xs] => withCore cs fun k hk => some ⟨.ex (Ram × List (Int × Int) × Core × Int × Ram) fun p => .ask (n = p.1.l.length ∧ n' = p.1.l.length ∧ c = p.1.l.length ∧ xs = bytesI p.1.l ∧ (a = p.2.1.length ∧ a' = p.2.1.length ∧ c2 = p.2.1.length ∧ ys = insV p.2.1) ∧ (k.ok ∧ insOk p.2.1 ∧ p.2.1.length ≤ 1000) ∧ runR k p.1 p.2.1 = p.2.2)
      (.ret (.tup [.agg p.2.2.1.sv, .s (.int .i64 p.2.2.2.1)]) [mBox2 p.2.2.2.2.l.length, insC p.2.1, mOwn p.2.2.2.2.l]), fun K h => by
      obtain ⟨⟨m, l, k', e', m'⟩, ⟨e1, e2, e3, e4, ⟨e5, e6, e7, e8⟩, ⟨h1, h3, h4⟩, h2⟩, h⟩ := h
      dsimp only at e1 e2 e3 e4 e5 e6 e7 e8 h2 h h3 h4
      subst e1; subst e2; subst e3; subst e4; subst e5; subst e6; subst e7; subst e8; subst hk
      refine run_c k m l h1 (insOk_all h3) h4 K ?_
      rw [h2]; exact h⟩
  | _, _ => none)
end Go.Proofs

namespace Go.Proofs
open Go Go.Sx
set_option maxRecDepth 10000
theorem c_merge {X : Cx} {c : Code} {Q : Exit → Act → World → Prop} {fr : Fr} {σ : List Ch} (fr' : Fr) (σ' : List Ch) (ways : WpE X Q .normal fr' σ' → WpC X c Q fr σ) (cont : WpE X Q .normal fr' σ') : WpC X c Q fr σ := ways cont
def i32B (n : Int) : Bool := decide (-2147483648 ≤ n) && decide (n ≤ 2147483647)
theorem i32B_ok {n : Int} (h : i32B n = true) : I32 n := by unfold i32B at h; unfold I32; simp at h; omega
def Core.okB (k : Core) : Bool := i32B k.a && i32B k.b && i32B k.c && i32B k.iptr && i32B k.wptr && (decide (-9223372036854775808 ≤ k.pri) && decide (k.pri ≤ 9223372036854775807)) && i32B k.f0 && i32B k.f1 && i32B k.b0 && i32B k.b1 && i32B k.t0 && i32B k.t1 && i32B k.k0 && i32B k.k1 && i32B k.ticks && i32B k.slice && i32B k.sa && i32B k.sb && i32B k.sc && i32B k.siptr && i32B k.swptr && i32B k.sslice
theorem okB_ok {k : Core} (h : k.okB = true) : k.ok := by
  unfold Core.okB at h
  simp only [Bool.and_eq_true] at h
  obtain ⟨⟨⟨⟨⟨⟨⟨⟨⟨⟨⟨⟨⟨⟨⟨⟨⟨⟨⟨⟨⟨h1, h2⟩, h3⟩, h4⟩, h5⟩, h6⟩, h7⟩, h8⟩, h9⟩, h10⟩, h11⟩, h12⟩, h13⟩, h14⟩, h15⟩, h16⟩, h17⟩, h18⟩, h19⟩, h20⟩, h21⟩, h22⟩ := h
  have h6' := of_decide_eq_true h6.1
  have h6'' := of_decide_eq_true h6.2
  exact ⟨i32B_ok h1, i32B_ok h2, i32B_ok h3, i32B_ok h4, i32B_ok h5, ⟨h6', h6''⟩, i32B_ok h7, i32B_ok h8, i32B_ok h9, i32B_ok h10, i32B_ok h11, i32B_ok h12, i32B_ok h13, i32B_ok h14, i32B_ok h15, i32B_ok h16, i32B_ok h17, i32B_ok h18, i32B_ok h19, i32B_ok h20, i32B_ok h21, i32B_ok h22⟩
def Ram.z : Ram := ⟨List.replicate 1024 0, by simp, by simp, by simp, by intro b hb; rw [List.mem_replicate] at hb; omega⟩
theorem fn_c (f n : Int) : Con Tryz.prog f_l28_fn [.s (.int .u8 f), .s (.int .i32 n)] [] (.ret (.t (.agg [.int .u8 f, .int .i32 n])) []) := by
  intro K hK
  refine enter fn_l28_fn rfl nt_l28_fn rfl rfl (fun φ w0 β0 F => ?_)
  refine c_run tt_ok (ct := []) trivial k_l28_fn [] 60 (by kernel_rfl) ?_
  exact fin_k tt_ok (rs := rs_l28_fn) rfl rfl hK [] rfl rfl rfl rfl rfl rfl
def spFn : List TV → Option (Prop × FV)
  | [.s (.int .u8 f), .s (.int .i32 n)] => some (True, .t (.agg [.int .u8 f, .int .i32 n]))
  | _ => none
theorem ceFn : CEok Tryz.prog f_l28_fn spFn := ⟨cal_l28_fn, fun args p v h hp => by
  unfold spFn at h; split at h
  · cases h; exact (fn_c _ _).pure
  · cases h⟩
theorem op_c (n : Int) : Con Tryz.prog f_l28_op [.s (.int .i32 n)] [] (.ret (.t (.agg [.int .u8 15, .int .i32 n])) []) := by
  intro K hK
  refine enter fn_l28_op rfl nt_l28_op rfl rfl (fun φ w0 β0 F => ?_)
  refine c_run tt_ok (ct := []) trivial k_l28_op [] 60 (by kernel_rfl) ?_
  exact fin_k tt_ok (rs := rs_l28_op) rfl rfl hK [] rfl rfl rfl rfl rfl rfl
def spOp : List TV → Option (Prop × FV)
  | [.s (.int .i32 n)] => some (True, .t (.agg [.int .u8 15, .int .i32 n]))
  | _ => none
theorem ceOp : CEok Tryz.prog f_l28_op spOp := ⟨cal_l28_op, fun args p v h hp => by
  unfold spOp at h; split at h
  · cases h; exact (op_c _).pure
  · cases h⟩
def rdK : Core := ⟨0, 0, 0, -2147483448, -2147483520, 1, true, false, false, false, 0, 0, 0, 0, 0, 0, 0, 0, 0, 0, false, 0, 0, 0, 0, 0, false, 0⟩
theorem rdK_ok : rdK.ok := okB_ok (by decide +kernel)
theorem ready_c : Con Tryz.prog f_l28_ready [] [] (.ret (.t (.agg rdK.sv)) []) := by
  intro K hK
  refine enter fn_l28_ready rfl nt_l28_ready rfl rfl (fun φ w0 β0 F => ?_)
  refine c_run tt_ok (ct := []) trivial k_l28_ready [] 60 (by kernel_rfl) ?_
  exact fin_k tt_ok (rs := rs_l28_ready) rfl rfl hK [] rfl rfl rfl rfl rfl rfl
def spReady : List TV → Option (Prop × FV)
  | [] => some (True, .t (.agg rdK.sv))
  | _ => none
theorem ceReady : CEok Tryz.prog f_l28_ready spReady := ⟨cal_l28_ready, fun args p v h hp => by
  unfold spReady at h; split at h
  · cases h; exact ready_c.pure
  · cases h⟩
noncomputable abbrev eNew : Ent := .st (conS (P := Tryz.prog) (f := f_mem_New) fun cargs σ0 => match cargs, σ0 with
  | [.s (.int .i64 n)], [] => some ⟨.br (mayM n) (.ret (.tup [.s (.loc 0 0), .s (.int .i64 0)]) [mBox n.toNat, .own 5 1 n.toNat (bytesI (List.replicate n.toNat 0))]) (.ret (.tup [.s (.raw (.pointer none)), .s (.int .i64 2)]) []), fun K h => New_c n K h⟩
  | _, _ => none)
noncomputable abbrev ctNw : CT := [(f_mem_New, eNew)]
theorem ctNw_ok : CTok Tryz.prog ctNw := ⟨con_ok cal_mem_New _, trivial⟩
theorem fresh_c : Con Tryz.prog f_l28_fresh [] [] (.ret (.t (.s (.loc 0 0))) [.blk 63 [.sl 1 0 1024 1024], .own 5 1 1024 (bytesI Ram.z.l)]) := by
  intro K hK
  refine enter fn_l28_fresh rfl nt_l28_fresh rfl rfl (fun φ w0 β0 F => ?_)
  refine c_run tt_ok ctNw_ok k_l28_fresh [] 60 (by kernel_rfl) ?_
  refine ⟨fun _ => ?_, fun h => absurd h (by decide)⟩
  exact fin_k tt_ok (rs := rs_l28_fresh) rfl rfl hK [0, 1] rfl rfl rfl rfl rfl rfl
noncomputable abbrev eFresh : Ent := .st (conS (P := Tryz.prog) (f := f_l28_fresh) fun cargs σ0 => match cargs, σ0 with
  | [], [] => some ⟨.ret (.t (.s (.loc 0 0))) [.blk 63 [.sl 1 0 1024 1024], .own 5 1 1024 (bytesI Ram.z.l)], fun K h => fresh_c K h⟩
  | _, _ => none)

def wm0 : Ram := Ram.z
def wi0 : Core := ⟨1, 2, 3, -2147483448, -2147483520, 1, true, false, false, false, 0, 0, 0, 0, 0, 0, 0, 0, 0, 0, false, 0, 0, 0, 0, 0, false, 0⟩
def wo0 : Core := ⟨-2147483448, 2, 3, -2147483438, -2147483536, 1, true, false, false, false, 0, 0, 0, 0, 0, 0, 0, 0, 0, 0, false, 0, 0, 0, 0, 0, false, 0⟩
def wm1 : Ram := (runR wi0 wm0 [(9, 10)]).2.2
theorem wx0 : runR wi0 wm0 [(9, 10)] = (wo0, 0, wm1) := by kernel_rfl
def wi1 : Core := ⟨7, -2, 3, -2147483448, -2147483520, 1, true, false, false, false, 0, 0, 0, 0, 0, 0, 0, 0, 0, 0, false, 0, 0, 0, 0, 0, false, 0⟩
def wo1 : Core := ⟨-9, 3, 3, -2147483448, -2147483520, 1, true, false, false, false, 0, 0, 0, 0, 0, 0, 0, 0, 0, 0, false, 0, 0, 0, 0, 0, false, 0⟩
def wm2 : Ram := (runR wi1 wm1 [(15, 12)]).2.2
theorem wx1 : runR wi1 wm1 [(15, 12)] = (wo1, 0, wm2) := by kernel_rfl
def wi2 : Core := ⟨0, -2, 3, -2147483448, -2147483520, 1, true, false, false, false, 0, 0, 0, 0, 0, 0, 0, 0, 0, 0, false, 0, 0, 0, 0, 0, false, 0⟩
def wo2 : Core := ⟨0, 3, 3, -2147483448, -2147483520, 1, true, true, false, false, 0, 0, 0, 0, 0, 0, 0, 0, 0, 0, false, 0, 0, 0, 0, 0, false, 0⟩
def wm3 : Ram := (runR wi2 wm2 [(15, 44)]).2.2
theorem wx2 : runR wi2 wm2 [(15, 44)] = (wo2, 0, wm3) := by kernel_rfl
noncomputable abbrev ctWk : CT := [(f_l28_ready, .pure spReady), (f_l28_fresh, eFresh), (f_l28_fn, .pure spFn), (f_l28_op, .pure spOp), (f_l28_run, eRun), (f_mem_Mem_Word, eWordT)]
theorem ctWk_ok : CTok Tryz.prog ctWk := ⟨ceReady, con_ok cal_l28_fresh _, ceFn, ceOp, con_ok cal_l28_run _, con_ok cal_mem_Mem_Word _, trivial⟩
set_option maxHeartbeats 4000000 in
theorem works_c : Con Tryz.prog f_l28_works [] [] (.ret (.t (.s (.bool true))) []) := by
  intro K hK
  refine enter fn_l28_works rfl nt_l28_works rfl rfl (fun φ w0 β0 F => ?_)
  refine c_run tt_ok ctWk_ok k_l28_works [] 60 (by kernel_rfl) ?_
  refine ⟨trivial, ?_⟩
  show WpC _ _ _ _ _
  refine c_merge [(1, .t (.s (.loc 0 0)), none), (2, .t (.s (.loc 1 0)), none), (3, .t (.s (.loc 3 0)), none), (4, .t (.s (.int .i64 0)), none)] [.blk 26 wi0.sv, .blk 63 [.sl 2 0 wm1.l.length wm1.l.length], mOwn wm1.l, .blk 26 wo0.sv] (fun key => ?ways1) ?cont1
  case ways1 =>
    refine c_ways tt_ok ctWk_ok k_l28_works rfl rfl ?_
    repeat' (first | exact trivial | (refine WpE.into ?_ key; first | (exact into [0, 1, 2, 3] ⟨⟨_, rfl, rfl⟩, ⟨_, rfl, rfl⟩, ⟨_, rfl, rfl⟩, ⟨_, rfl, rfl⟩, trivial⟩ ⟨_, rfl, rfl⟩ rfl rfl rfl rfl) | (exact into [0, 1, 2, 4] ⟨⟨_, rfl, rfl⟩, ⟨_, rfl, rfl⟩, ⟨_, rfl, rfl⟩, ⟨_, rfl, rfl⟩, trivial⟩ ⟨_, rfl, rfl⟩ rfl rfl rfl rfl)) | (refine Exists.intro (wm0, [(9, 10)], wo0, 0, wm1) ?_; refine And.intro ⟨rfl, rfl, rfl, rfl, ⟨rfl, rfl, rfl, rfl⟩, ⟨okB_ok (by decide +kernel), ⟨i32B_ok (by decide), trivial⟩, by decide⟩, wx0⟩ ?_) | (refine And.intro ?_ ?_) | (refine fun _ => ?_))
  refine e_run tt_ok ctWk_ok k_l28_works [] 60 (by kernel_rfl) ?_
  refine ⟨wm1, ⟨rfl, rfl, rfl, rfl, i32B_ok (by decide)⟩, wm1, ⟨rfl, rfl, rfl, rfl, i32B_ok (by decide)⟩, ?_⟩
  show WpC _ _ _ _ _
  refine c_merge [(1, .t (.s (.loc 0 0)), none), (2, .t (.s (.loc 1 0)), none), (3, .t (.s (.loc 3 0)), none), (4, .t (.s (.int .i64 0)), none), (5, .t (.s (.int .i32 (wm1.word (-2147483536)))), none), (7, .t (.s (.int .i32 (wm1.word (-2147483524)))), none), (9, .t (.s (.loc 4 0)), none), (10, .t (.s (.int .i64 0)), none)] [.blk 26 wi1.sv, .blk 63 [.sl 2 0 wm2.l.length wm2.l.length], mOwn wm2.l, .blk 26 wo0.sv, .blk 26 wo1.sv] (fun key => ?ways2) ?cont2
  case ways2 =>
    refine c_ways tt_ok ctWk_ok k_l28_works rfl rfl ?_
    repeat' (first | exact trivial | (refine WpE.into ?_ key; first | (exact into [0, 1, 2, 3, 4] ⟨⟨_, rfl, rfl⟩, ⟨_, rfl, rfl⟩, ⟨_, rfl, rfl⟩, ⟨_, rfl, rfl⟩, ⟨_, rfl, rfl⟩, ⟨_, rfl, rfl⟩, ⟨_, rfl, rfl⟩, ⟨_, rfl, rfl⟩, trivial⟩ ⟨_, rfl, rfl⟩ rfl rfl rfl rfl) | (exact into [0, 1, 2, 3, 5] ⟨⟨_, rfl, rfl⟩, ⟨_, rfl, rfl⟩, ⟨_, rfl, rfl⟩, ⟨_, rfl, rfl⟩, ⟨_, rfl, rfl⟩, ⟨_, rfl, rfl⟩, ⟨_, rfl, rfl⟩, ⟨_, rfl, rfl⟩, trivial⟩ ⟨_, rfl, rfl⟩ rfl rfl rfl rfl)) | (refine Exists.intro (wm1, [(15, 12)], wo1, 0, wm2) ?_; refine And.intro ⟨rfl, rfl, rfl, rfl, ⟨rfl, rfl, rfl, rfl⟩, ⟨okB_ok (by decide +kernel), ⟨i32B_ok (by decide), trivial⟩, by decide⟩, wx1⟩ ?_) | (refine And.intro ?_ ?_) | (refine fun _ => ?_))
  refine e_run tt_ok ctWk_ok k_l28_works [] 60 (by kernel_rfl) ?_
  show WpC _ _ _ _ _
  refine c_merge [(1, .t (.s (.loc 0 0)), none), (2, .t (.s (.loc 1 0)), none), (3, .t (.s (.loc 3 0)), none), (4, .t (.s (.int .i64 0)), none), (5, .t (.s (.int .i32 (wm1.word (-2147483536)))), none), (7, .t (.s (.int .i32 (wm1.word (-2147483524)))), none), (9, .t (.s (.loc 4 0)), none), (10, .t (.s (.int .i64 0)), none), (11, .t (.s (.loc 5 0)), none), (12, .t (.s (.int .i64 0)), none)] [.blk 26 wi2.sv, .blk 63 [.sl 2 0 wm3.l.length wm3.l.length], mOwn wm3.l, .blk 26 wo0.sv, .blk 26 wo1.sv, .blk 26 wo2.sv] (fun key => ?ways3) ?cont3
  case ways3 =>
    refine c_ways tt_ok ctWk_ok k_l28_works rfl rfl ?_
    repeat' (first | exact trivial | (refine WpE.into ?_ key; first | (exact into [0, 1, 2, 3, 4, 5] ⟨⟨_, rfl, rfl⟩, ⟨_, rfl, rfl⟩, ⟨_, rfl, rfl⟩, ⟨_, rfl, rfl⟩, ⟨_, rfl, rfl⟩, ⟨_, rfl, rfl⟩, ⟨_, rfl, rfl⟩, ⟨_, rfl, rfl⟩, ⟨_, rfl, rfl⟩, ⟨_, rfl, rfl⟩, trivial⟩ ⟨_, rfl, rfl⟩ rfl rfl rfl rfl) | (exact into [0, 1, 2, 3, 4, 6] ⟨⟨_, rfl, rfl⟩, ⟨_, rfl, rfl⟩, ⟨_, rfl, rfl⟩, ⟨_, rfl, rfl⟩, ⟨_, rfl, rfl⟩, ⟨_, rfl, rfl⟩, ⟨_, rfl, rfl⟩, ⟨_, rfl, rfl⟩, ⟨_, rfl, rfl⟩, ⟨_, rfl, rfl⟩, trivial⟩ ⟨_, rfl, rfl⟩ rfl rfl rfl rfl)) | (refine Exists.intro (wm2, [(15, 44)], wo2, 0, wm3) ?_; refine And.intro ⟨rfl, rfl, rfl, rfl, ⟨rfl, rfl, rfl, rfl⟩, ⟨okB_ok (by decide +kernel), ⟨i32B_ok (by decide), trivial⟩, by decide⟩, wx2⟩ ?_) | (refine And.intro ?_ ?_) | (refine fun _ => ?_))
  refine e_run tt_ok ctWk_ok k_l28_works [] 60 (by kernel_rfl) ?_
  refine fin_k tt_ok (rs := rs_l28_works) rfl rfl hK [] ?_ rfl rfl rfl rfl rfl
  refine t1b ?_
  decide +kernel
def spWorks : List TV → Option (Prop × FV)
  | [] => some (True, .t (.s (.bool true)))
  | _ => none
theorem ceWorks : CEok Tryz.prog f_l28_works spWorks := ⟨cal_l28_works, fun args p v h hp => by
  unfold spWorks at h; split at h
  · cases h; exact works_c.pure
  · cases h⟩
theorem i32_u8 {o : Int} (h : 0 ≤ o ∧ o < 256) : I32 o := by unfold I32; omega
end Go.Proofs

namespace Go.Proofs
open Go Go.Sx
set_option maxRecDepth 10000
noncomputable abbrev ctMi : CT := [(f_cpu_Mine, .pure spMine), (f_r28_Mine, .pure spRMine), (f_l28_works, .pure spWorks)]
theorem ctMi_ok : CTok Tryz.prog ctMi := ⟨ceMine, ceRMine, ceWorks, trivial⟩
set_option maxHeartbeats 1000000 in
theorem CpuMine_c (fn o q : Int) : Con Tryz.prog f_l28_CpuMine [.agg [.int .u8 fn, .int .i32 o], .s (.int .u8 q)] [] (.ret (.t (.s (.bool true))) []) := by
  intro K hK
  refine enter fn_l28_CpuMine rfl nt_l28_CpuMine rfl rfl (fun φ w0 β0 F => ?_)
  refine c_run tt_ok ctMi_ok k_l28_CpuMine [] 60 (by kernel_rfl) ?_
  refine ⟨trivial, trivial, fun _ => trivial, fun _ => trivial, fun _ => trivial, ?_⟩
  refine fin_k tt_ok (rs := rs_l28_CpuMine) rfl rfl hK [] ?_ rfl rfl rfl rfl rfl
  refine t1b ?_
  simp
end Go.Proofs
