/- The reference's lend. -/
import Derived.Test.YtgmjidajikhimaaGreatWalkF
import Derived.Test.YtgmjidajikhimaaGreatWalkE
import Derived.Test.YtgmjidajikhimaaGreatWalkG
import Derived.Test.YtgmjidajikhimaaGreatSxC

namespace Go.Proofs
open Go Go.Sx
set_option maxRecDepth 10000
theorem finR_bad {y : Mach} (h : (y.e != 0) = true) : finR y = (.zero, 4, y.m) := by unfold finR; rw [h]; rfl
theorem finR_ok {y : Mach} (h : (y.e != 0) = false) : finR y = (y.k, 0, y.m) := by unfold finR; rw [h]; rfl
theorem eOr_0 (e : Int) : eOr 0 e = e := rfl
/-- The address of a word and a wrapped number, told. -/
noncomputable abbrev eRwT : Ent := .st (conS (P := Tryz.prog) (f := f_r28_word) fun cargs σ0 => match cargs, σ0 with
  | [.s (.int .i32 w), .s (.int .i32 n)], [] => some ⟨.ex Int fun a => .ask ((I32 w ∧ I32 n) ∧ Wd (w + 4 * n) = a) (.ret (.t (.s (.int .i32 a))) []), fun K h => by
      obtain ⟨a, ⟨⟨h1, h2⟩, h3⟩, h⟩ := h
      subst h3
      exact rword_c w n h1 h2 K h⟩
  | _, _ => none)
noncomputable abbrev eRWrapT : Ent := .st (conS (P := Tryz.prog) (f := f_r01_Wrap) fun cargs σ0 => match cargs, σ0 with
  | [.s (.int .i64 t)], [] => some ⟨.ex Int fun a => .ask ((-9223372036854775808 ≤ t ∧ t ≤ 9223372036854775807) ∧ Wd t = a) (.ret (.t (.s (.int .i32 a))) []), fun K h => by
      obtain ⟨a, ⟨⟨h1, h2⟩, h3⟩, h⟩ := h
      subst h3
      exact RWrap_c t h1 h2 K h⟩
  | _, _ => none)
theorem wd_0 {w : Int} (h : I32 w) : Wd (w + 4 * 0) = w := by unfold Wd; unfold I32 at h; omega
theorem wd_at {w n : Int} : Wd (w + 4 * n) = at4 w n := by unfold Wd at4; simp only [IntKind.wrap_i32]; omega
theorem wd_4 {k : Core} : Wd (k.b + 4 * 1) = w4 k := by unfold Wd w4; rw [IntKind.wrap_i32]; omega
theorem i32_01 : I32 0 ∧ I32 1 := by unfold I32; decide
theorem wr_sub {x y : Int} (_hx : I32 x) (_hy : I32 y) : Wd (IntKind.i64.wrap (IntKind.i64.wrap x - IntKind.i64.wrap y)) = IntKind.i32.wrap (x - y) := by
  simp only [IntKind.wrap_i32, IntKind.wrap_i64]; unfold Wd; unfold I32 at *; omega
theorem wr_sub1 {x : Int} (_hx : I32 x) : Wd (IntKind.i64.wrap (IntKind.i64.wrap x - 1)) = IntKind.i32.wrap (x - 1) := by
  simp only [IntKind.wrap_i32, IntKind.wrap_i64]; unfold Wd; unfold I32 at *; omega
theorem wr_add1 {x : Int} (_hx : I32 x) : Wd (IntKind.i64.wrap (IntKind.i64.wrap x + 1)) = IntKind.i32.wrap (x + 1) := by
  simp only [IntKind.wrap_i32, IntKind.wrap_i64]; unfold Wd; unfold I32 at *; omega
theorem wr_add {x y : Int} (_hx : I32 x) (_hy : I32 y) : Wd (IntKind.i64.wrap (IntKind.i64.wrap x + IntKind.i64.wrap y)) = IntKind.i32.wrap (x + y) := by
  simp only [IntKind.wrap_i32, IntKind.wrap_i64]; unfold Wd; unfold I32 at *; omega
theorem i64_rng (t : Int) : -9223372036854775808 ≤ IntKind.i64.wrap t ∧ IntKind.i64.wrap t ≤ 9223372036854775807 := ⟨i64_lo _, i64_hi _⟩
abbrev ROut (m : Ram) (r : Core × Int × Ram) : Out := .all Nat (fun c => m.l.length ≤ c) fun c => .ret (.tup [.agg r.1.sv, .s (.sl 1 0 r.2.2.l.length c), .s (.int .i64 r.2.1)]) [.view (bytesI m.l), .view (bytesI r.2.2.l)]
noncomputable abbrev ctLe : CT := [(f_r28_word, eRwT), (f_r01_Wrap, eRWrapT), (f_r03_Word, eRWordT), (f_r03_SetWord, eRSetWordT)]
theorem ctLe_ok : CTok Tryz.prog ctLe := ⟨con_ok cal_r28_word _, con_ok cal_r01_Wrap _, con_ok cal_r03_Word _, con_ok cal_r03_SetWord _, trivial⟩
theorem lendE_bad {k : Core} {m : Ram} (h : (bif m.err k.b != 0 then true else m.err (w4 k) != 0) = true) : (lendE k 0 m != 0) = true := by
  unfold lendE eOr
  cases h1 : m.err k.b == 0 with
  | true => simp [h1] at h ⊢; have := eq_of_beq h1; simp [this] at h; exact h
  | false => simp [h1] at h ⊢; simpa using h1
theorem lendE_ok {k : Core} {m : Ram} (h : (bif m.err k.b != 0 then true else m.err (w4 k) != 0) = false) : lendE k 0 m = 0 ∧ m.err k.b = 0 ∧ m.err (w4 k) = 0 := by
  have h1 : m.err k.b = 0 := by
    cases h1 : m.err k.b != 0 with
    | true => rw [h1] at h; cases h
    | false => simpa using h1
  rw [h1] at h
  have h2 : m.err (w4 k) = 0 := by simpa using h
  exact ⟨by simp [lendE, eOr, h1, h2], h1, h2⟩
set_option maxHeartbeats 2000000 in
theorem rlend_c (k : Core) (m : Ram) (cap : Nat) (hok : k.ok) (hc : m.l.length ≤ cap) : Con Tryz.prog f_r28_lend [.agg k.sv, .s (.sl 0 0 m.l.length cap)] [.view (bytesI m.l)] (ROut m (finR (Mach.lend ⟨k, 0, m⟩))) := by
  intro K hK
  refine enter fn_r28_lend rfl nt_r28_lend rfl rfl (fun φ w0 β0 F => ?_)
  refine c_run tt_ok ctLe_ok k_r28_lend [] 90 (by kernel_rfl) ?_
  refine ⟨k.b, ⟨⟨hok.b, i32_01.1⟩, wd_0 hok.b⟩, m, ⟨rfl, rfl, hok.b⟩, w4 k, ⟨⟨hok.b, i32_01.2⟩, wd_4⟩, m, ⟨rfl, rfl, I32_wrap _⟩, fun h => ?_, fun h => ?_⟩
  · have hE := lendE_bad h
    rw [show Mach.lend ⟨k, 0, m⟩ = ⟨k, lendE k 0 m, m⟩ by simp [Mach.lend, hE], finR_bad hE] at hK
    refine WpE.into (aliasSlot 5 0 0 m.l.length cap rfl rfl) ?_
    refine fin_k tt_ok (rs := rs_r28_lend) rfl rfl (hK cap hc) [0, 3] rfl ?_ rfl rfl rfl rfl
    rw [view_seg]; rfl
  · obtain ⟨hE, h1, h2⟩ := lendE_ok h
    refine ⟨lendC k m, ⟨i64_rng _, wr_sub1 (word_I32 m _)⟩, w4 k, ⟨⟨hok.b, i32_01.2⟩, wd_4⟩, m, ⟨rfl, rfl, I32_wrap _, hc⟩, fun c hc1 => ⟨fun h3 => ?_, fun h3 => ?_⟩⟩
    · have hm : finR (Mach.lend ⟨k, 0, m⟩) = ({ k with iptr := IntKind.i32.wrap (k.iptr - k.a) }, 0, (m.set (w4 k) (lendC k m)).set k.b (IntKind.i32.wrap (m.word k.b + 1))) := by
        rw [finR_ok]
        · simp [Mach.lend, hE, show decide (lendC k m > 0) = true from h3]
        · simp [Mach.lend, hE, show decide (lendC k m > 0) = true from h3, eOr, h2, set_err, h1]
      rw [hm] at hK
      refine ⟨k.b, ⟨⟨hok.b, i32_01.1⟩, wd_0 hok.b⟩, IntKind.i32.wrap (m.word k.b + 1), ⟨i64_rng _, wr_add1 (word_I32 m _)⟩, m.set (w4 k) (lendC k m), ⟨rfl, rfl, hok.b, by rw [set_len]; exact hc1⟩, fun c2 hc2 => ?_⟩
      refine ⟨IntKind.i32.wrap (k.iptr - k.a), ⟨i64_rng _, wr_sub hok.iptr hok.a⟩, ?_⟩

      exact fin_k tt_ok (rs := rs_r28_lend) rfl rfl (hK c2 (by rw [set_len] at hc2; exact hc2)) [0, 4] rfl rfl rfl rfl rfl rfl
    · have hm : finR (Mach.lend ⟨k, 0, m⟩) = (k, 0, m.set (w4 k) (lendC k m)) := by
        rw [finR_ok]
        · simp [Mach.lend, hE, show decide (lendC k m > 0) = false from h3]
        · simp [Mach.lend, hE, show decide (lendC k m > 0) = false from h3, eOr, h2]
      rw [hm] at hK
      exact fin_k tt_ok (rs := rs_r28_lend) rfl rfl (hK c hc1) [0, 3] rfl rfl rfl rfl rfl rfl
noncomputable abbrev eRlend : Ent := .st (conS (P := Tryz.prog) (f := f_r28_lend) fun cargs σ0 => match cargs, σ0 with
  | [.agg cs, .s (.sl 0 0 n cap)], [.view xs] => withCore cs fun k hk => some ⟨.ex (Ram × Core × Int × Ram) fun p => .ask (n = p.1.l.length ∧ xs = bytesI p.1.l ∧ (k.ok ∧ p.1.l.length ≤ cap) ∧ finR (Mach.lend ⟨k, 0, p.1⟩) = p.2) (ROut p.1 p.2), fun K h => by
      obtain ⟨⟨m, r⟩, ⟨e1, e2, ⟨h1, h2⟩, e3⟩, h⟩ := h
      dsimp only at e1 e2 h1 h2 e3 h
      subst e1; subst e2; subst hk; subst e3
      exact rlend_c k m cap h1 h2 K h⟩
  | _, _ => none)
end Go.Proofs

namespace Go.Proofs
open Go Go.Sx
set_option maxRecDepth 10000
def isMem (o : Int) : Bool := o == 1 || o == 59 || o == 74 || o == 32 || o == 33
def memR (o : Int) (k : Core) (m : Ram) : (Core × Int × Ram) × Bool := bif isMem o then (finR (othX o ⟨k, 0, m⟩), true) else ((k, 0, m), false)
abbrev ROut4 (m : Ram) (r : (Core × Int × Ram) × Bool) : Out := .all Nat (fun c => m.l.length ≤ c) fun c => .ret (.tup [.agg r.1.1.sv, .s (.sl 1 0 r.1.2.2.l.length c), .s (.int .i64 r.1.2.1), .s (.bool r.2)]) [.view (bytesI m.l), .view (bytesI r.1.2.2.l)]
theorem wd_16 {w : Int} : Wd (w + 4 * 4) = IntKind.i32.wrap (w + 16) := by unfold Wd; rw [IntKind.wrap_i32]; omega
noncomputable abbrev ctRe : CT := [(f_r28_word, eRwT), (f_r28_pop, .pure spRPop), (f_r28_lend, eRlend), (f_r03_Word, eRWordT), (f_r03_SetWord, eRSetWordT), (f_r03_Byte, eRByteT), (f_r03_SetByte, eRSetByteT), (f_r03_Move, eRMoveT)]
theorem ctRe_ok : CTok Tryz.prog ctRe := ⟨con_ok cal_r28_word _, ceRPop, con_ok cal_r28_lend _, con_ok cal_r03_Word _, con_ok cal_r03_SetWord _, con_ok cal_r03_Byte _, con_ok cal_r03_SetByte _, con_ok cal_r03_Move _, trivial⟩
theorem errB_same {m : Ram} {a v : Int} (h : (m.errB a != 0) = true) : m.setB a v = m := by
  unfold Ram.errB at h; unfold Ram.setB
  cases hb : spanBad m.l.length a 1 with
  | true => rfl
  | false => rw [hb] at h; cases h
theorem mvE_same {m : Ram} {to fr n : Int} (h : (mvE m to fr n != 0) = true) : mvM m to fr n = m := by
  unfold mvE at h; unfold mvM Ram.move
  cases hn : n == 0 with
  | true => rfl
  | false =>
    rw [hn] at h
    cases hb : mvBad m to fr n with
    | true => rfl
    | false => rw [hb] at h; cases h
theorem i32_4 : I32 4 := by unfold I32; decide
set_option maxHeartbeats 4000000 in
theorem memory_c (k : Core) (m : Ram) (cap : Nat) (o : Int) (hok : k.ok) (hc : m.l.length ≤ cap) : Con Tryz.prog f_r28_memory [.agg k.sv, .s (.sl 0 0 m.l.length cap), .s (.int .i32 o)] [.view (bytesI m.l)] (ROut4 m (memR o k m)) := by
  intro K hK
  refine enter fn_r28_memory rfl nt_r28_memory rfl rfl (fun φ w0 β0 F => ?_)
  refine c_run tt_ok ctRe_ok k_r28_memory [] 90 (by kernel_rfl) ?_
  refine ⟨fun h1 => ?_, fun h1 => ⟨fun h59 => ?_, fun h59 => ⟨fun h74 => ?_, fun h74 => ⟨fun h32 => ?_, fun h32 => ⟨fun h33 => ?_, fun h33 => ?_⟩⟩⟩⟩⟩
  · have e : o = 1 := eq_of_beq (show (o == 1) = true from h1)
    subst e
    rw [show memR 1 k m = (finR (Mach.lb ⟨k, 0, m⟩), true) from rfl] at hK
    refine ⟨m, ⟨rfl, rfl, hok.a⟩, fun h => ?_, fun h => ?_⟩
    · rw [finR_bad (y := Mach.lb ⟨k, 0, m⟩) h] at hK
      refine WpE.into (aliasSlot 7 0 0 m.l.length cap rfl rfl) ?_
      refine fin_k tt_ok (rs := rs_r28_memory) rfl rfl (hK cap hc) [0, 3] rfl ?_ rfl rfl rfl rfl
      rw [view_seg]; rfl
    · rw [finR_ok (y := Mach.lb ⟨k, 0, m⟩) h] at hK
      refine WpE.into (aliasSlot 7 0 0 m.l.length cap rfl rfl) ?_
      refine fin_k tt_ok (rs := rs_r28_memory) rfl rfl (hK cap hc) [0, 3] rfl ?_ rfl rfl rfl rfl
      rw [view_seg]; rfl
  · have e : o = 59 := eq_of_beq (show (o == 59) = true from h59)
    subst e
    rw [show memR 59 k m = (finR (Mach.sb ⟨k, 0, m⟩), true) from rfl] at hK
    refine ⟨m, ⟨rfl, rfl, hok.a, u8w _, hc⟩, fun c h2 => ⟨trivial, trivial, fun h => ?_, fun h => ?_⟩⟩
    · rw [finR_bad (y := Mach.sb ⟨k, 0, m⟩) h, show (Mach.sb ⟨k, 0, m⟩).m = m from errB_same h] at hK
      refine WpE.into (aliasSlot 7 0 0 m.l.length cap rfl rfl) ?_
      refine fin_k tt_ok (rs := rs_r28_memory) rfl rfl (hK cap hc) [0, 4] rfl ?_ rfl rfl rfl rfl
      rw [view_seg]; rfl
    · rw [finR_ok (y := Mach.sb ⟨k, 0, m⟩) h] at hK
      exact fin_k tt_ok (rs := rs_r28_memory) rfl rfl (hK c h2) [0, 3] rfl rfl rfl rfl rfl rfl
  · have e : o = 74 := eq_of_beq (show (o == 74) = true from h74)
    subst e
    rw [show memR 74 k m = (finR (Mach.move ⟨k, 0, m⟩), true) from rfl] at hK
    refine ⟨m, ⟨rfl, rfl, hok.b, hok.c, hok.a, hc⟩, fun c h2 => ⟨fun h => ?_, fun h => ?_⟩⟩
    · rw [finR_bad (y := Mach.move ⟨k, 0, m⟩) h, show (Mach.move ⟨k, 0, m⟩).m = m from mvE_same h] at hK
      refine WpE.into (aliasSlot 7 0 0 m.l.length cap rfl rfl) ?_
      refine fin_k tt_ok (rs := rs_r28_memory) rfl rfl (hK cap hc) [0, 4] rfl ?_ rfl rfl rfl rfl
      rw [view_seg]; rfl
    · rw [finR_ok (y := Mach.move ⟨k, 0, m⟩) h] at hK
      exact fin_k tt_ok (rs := rs_r28_memory) rfl rfl (hK c h2) [0, 3] rfl rfl rfl rfl rfl rfl
  · have e : o = 32 := eq_of_beq (show (o == 32) = true from h32)
    subst e
    rw [show memR 32 k m = (finR (Mach.ret ⟨k, 0, m⟩), true) from rfl] at hK
    refine ⟨m, ⟨rfl, rfl, hok.wptr⟩, IntKind.i32.wrap (k.wptr + 16), ⟨⟨hok.wptr, i32_4⟩, wd_16⟩, fun h => ?_, fun h => ?_⟩
    · rw [finR_bad (y := Mach.ret ⟨k, 0, m⟩) h] at hK
      refine WpE.into (aliasSlot 7 0 0 m.l.length cap rfl rfl) ?_
      refine fin_k tt_ok (rs := rs_r28_memory) rfl rfl (hK cap hc) [0, 3] rfl ?_ rfl rfl rfl rfl
      rw [view_seg]; rfl
    · rw [finR_ok (y := Mach.ret ⟨k, 0, m⟩) h] at hK
      refine WpE.into (aliasSlot 7 0 0 m.l.length cap rfl rfl) ?_
      refine fin_k tt_ok (rs := rs_r28_memory) rfl rfl (hK cap hc) [0, 3] rfl ?_ rfl rfl rfl rfl
      rw [view_seg]; rfl
  · have e : o = 33 := eq_of_beq (show (o == 33) = true from h33)
    subst e
    rw [show memR 33 k m = (finR (Mach.lend ⟨k, 0, m⟩), true) from rfl] at hK
    obtain ⟨r, hr⟩ : ∃ r, finR (Mach.lend ⟨k, 0, m⟩) = r := ⟨_, rfl⟩
    rw [hr] at hK
    obtain ⟨k', e', m'⟩ := r
    refine ⟨(m, k', e', m'), ⟨rfl, rfl, ⟨hok, hc⟩, hr⟩, fun c h2 => ?_⟩
    exact fin_k tt_ok (rs := rs_r28_memory) rfl rfl (hK c h2) [0, 3] rfl rfl rfl rfl rfl rfl
  · have hB : isMem o = false := by simp only [isMem, show (o == 1) = false from h1, show (o == 59) = false from h59, show (o == 74) = false from h74, show (o == 32) = false from h32, show (o == 33) = false from h33, Bool.or_false]
    rw [show memR o k m = ((k, 0, m), false) by simp only [memR, hB, cond_false]] at hK
    refine WpE.into (aliasSlot 7 0 0 m.l.length cap rfl rfl) ?_
    refine fin_k tt_ok (rs := rs_r28_memory) rfl rfl (hK cap hc) [0, 3] rfl ?_ rfl rfl rfl rfl
    rw [view_seg]; rfl
noncomputable abbrev eRmemory : Ent := .st (conS (P := Tryz.prog) (f := f_r28_memory) fun cargs σ0 => match cargs, σ0 with
  | [.agg cs, .s (.sl 0 0 n cap), .s (.int .i32 o)], [.view xs] => withCore cs fun k hk => some ⟨.ex (Ram × (Core × Int × Ram) × Bool) fun p => .ask (n = p.1.l.length ∧ xs = bytesI p.1.l ∧ (k.ok ∧ p.1.l.length ≤ cap) ∧ memR o k p.1 = p.2) (ROut4 p.1 p.2), fun K h => by
      obtain ⟨⟨m, r⟩, ⟨e1, e2, ⟨h1, h2⟩, e3⟩, h⟩ := h
      dsimp only at e1 e2 h1 h2 e3 h
      subst e1; subst e2; subst hk; subst e3
      exact memory_c k m cap o h1 h2 K h⟩
  | _, _ => none)
end Go.Proofs

namespace Go.Proofs
open Go Go.Sx
set_option maxRecDepth 10000
theorem c_mergeA {α : Type} {X : Cx} {c : Code} {Q : Exit → Act → World → Prop} {fr : Fr} {σ : List Ch} (p : α → Prop) (fr' : α → Fr) (σ' : α → List Ch) (ways : (∀ x, p x → WpE X Q .normal (fr' x) (σ' x)) → WpC X c Q fr σ) (cont : ∀ x, p x → WpE X Q .normal (fr' x) (σ' x)) : WpC X c Q fr σ := ways cont
noncomputable abbrev ctCl : CT := [(f_r28_word, eRwT), (f_r03_SetWord, eRSetWordT), (f_r01_Wrap, eRWrapT)]
theorem ctCl_ok : CTok Tryz.prog ctCl := ⟨con_ok cal_r28_word _, con_ok cal_r03_SetWord _, con_ok cal_r01_Wrap _, trivial⟩
theorem wd_cA {w : Int} (i : Int) : Wd (w + 4 * (-1 - i)) = cA w i := by unfold Wd cA; simp only [IntKind.wrap_i32]; omega
def clV (k : Core) : Nat → Int
  | 0 => k.c
  | 1 => k.b
  | 2 => k.a
  | _ => k.iptr
def clM (k : Core) (m : Ram) : Nat → Ram
  | 0 => m
  | i + 1 => (clM k m i).set (cA k.wptr (i : Int)) (clV k i)
theorem clM_len (k : Core) (m : Ram) : ∀ i, (clM k m i).l.length = m.l.length
  | 0 => rfl
  | i + 1 => by show ((clM k m i).set _ _).l.length = _; rw [set_len, clM_len k m i]
theorem clM_err (k : Core) (m : Ram) (a : Int) : ∀ i, (clM k m i).err a = m.err a
  | 0 => rfl
  | i + 1 => by show ((clM k m i).set _ _).err a = _; rw [set_err, clM_err k m a i]
theorem eOr_l {a b : Int} (h : a ≠ 0) : eOr a b = a := by unfold eOr; rw [show (a == 0) = false by simpa using h]; rfl
theorem wd_cA' {w : Int} {i : Nat} (_h : i < 4) : Wd (w + 4 * IntKind.i32.wrap (IntKind.i64.wrap (-1 - (i : Int)))) = cA w i := by
  unfold Wd cA; simp only [IntKind.wrap_i32, IntKind.wrap_i64]; omega
theorem clE_bad {k : Core} {m : Ram} {i : Nat} (hi : i < 4) (h : ∀ j : Nat, j < i → m.err (cA k.wptr j) = 0) (hb : m.err (cA k.wptr i) ≠ 0) : (callE k.wptr 0 m != 0) = true := by
  have key : callE k.wptr 0 m = m.err (cA k.wptr i) := by
    unfold callE
    match i, hi, h, hb with
    | 0, _, h, hb => rw [eOr_0, eOr_l (a := m.err (cA k.wptr 0)) hb, eOr_l (a := m.err (cA k.wptr 0)) hb, eOr_l (a := m.err (cA k.wptr 0)) hb]; rfl
    | 1, _, h, hb => rw [eOr_0, show m.err (cA k.wptr 0) = 0 from h 0 (by decide), eOr_0, eOr_l (a := m.err (cA k.wptr 1)) hb, eOr_l (a := m.err (cA k.wptr 1)) hb]; rfl
    | 2, _, h, hb => rw [eOr_0, show m.err (cA k.wptr 0) = 0 from h 0 (by decide), eOr_0, show m.err (cA k.wptr 1) = 0 from h 1 (by decide), eOr_0, eOr_l (a := m.err (cA k.wptr 2)) hb]; rfl
    | 3, _, h, hb => rw [eOr_0, show m.err (cA k.wptr 0) = 0 from h 0 (by decide), eOr_0, show m.err (cA k.wptr 1) = 0 from h 1 (by decide), eOr_0, show m.err (cA k.wptr 2) = 0 from h 2 (by decide), eOr_0]; rfl
  rw [key]; simpa using hb
theorem clE_ok {k : Core} {m : Ram} (h : ∀ j : Nat, j < 4 → m.err (cA k.wptr j) = 0) : (callE k.wptr 0 m != 0) = false := by
  unfold callE eOr
  simp [show m.err (cA k.wptr 0) = 0 from h 0 (by decide), show m.err (cA k.wptr 1) = 0 from h 1 (by decide), show m.err (cA k.wptr 2) = 0 from h 2 (by decide), show m.err (cA k.wptr 3) = 0 from h 3 (by decide)]
set_option maxHeartbeats 4000000 in
theorem rcall_c (k : Core) (m : Ram) (cap : Nat) (n : Int) (hok : k.ok) (hn : I32 n) (hc : m.l.length ≤ cap) : Con Tryz.prog f_r28_call [.agg k.sv, .s (.sl 0 0 m.l.length cap), .s (.int .i32 n)] [.view (bytesI m.l)] (ROut m (finR (Mach.call ⟨k, 0, m⟩ n))) := by
  intro K hK
  refine enter fn_r28_call rfl nt_r28_call rfl rfl (fun φ w0 β0 F => ?_)
  refine c_run tt_ok ctCl_ok k_r28_call [] 90 (by kernel_rfl) ?_
  show WpC _ _ _ _ _
  refine WpC.into (aliasSlot 9 0 0 m.l.length cap rfl rfl) ?_
  refine c_loop (α := Nat × Nat) (fun x => x.1 ≤ 4 ∧ m.l.length ≤ x.2 ∧ ∀ j : Nat, j < x.1 → m.err (cA k.wptr j) = 0) (fun x => 4 - x.1)
    (fun x => [(1, .t (.s (.sl 0 0 m.l.length cap)), none), (2, .t (.s (.int .i32 n)), none), (3, .t (.s (.loc 1 0)), none), (6, .t (.s (.loc 2 0)), none), (9, .t (.s (.sl 4 0 m.l.length x.2)), none), (10, .t (.s (.sl 3 0 4 4)), none), (11, .t (.s (.int .i64 (x.1 : Int))), none)])
    (fun x => [.view (bytesI m.l), .blk 26 k.sv, .blk 26 Core.zero.sv, .own 21 1 4 [.int .i32 k.c, .int .i32 k.b, .int .i32 k.a, .int .i32 k.iptr], .view (bytesI (clM k m x.1).l)]) (0, cap) ⟨Nat.zero_le _, hc, fun j hj => absurd hj (Nat.not_lt_zero _)⟩ ?_ ?_
  · refine into [0, 1, 2, 3, 4] ⟨⟨_, rfl, rfl⟩, ⟨_, rfl, rfl⟩, ⟨_, rfl, rfl⟩, ⟨_, rfl, rfl⟩, ⟨_, rfl, rfl⟩, ⟨_, rfl, rfl⟩, ⟨_, rfl, rfl⟩, trivial⟩ ⟨_, rfl, ?_⟩ rfl rfl rfl rfl
    rw [view_seg]; rfl
  · rintro ⟨i, c⟩ ⟨hi, hcc, he⟩
    simp only at hi hcc he
    dsimp only
    refine c_run' tt_ok ctCl_ok k_r28_call [] 90 (by kernel_rfl) (by kernel_rfl) ?_
    refine ⟨fun h => ?_, fun h => ?_⟩
    · have hlt : i < 4 := by have := of_decide_eq_true h; omega
      have hlen := clM_len k m i
      have hv : ([.int .i32 k.c, .int .i32 k.b, .int .i32 k.a, .int .i32 k.iptr] : List Value)[0 + i * (0 + 1)]? = some (SV.int .i32 (clV k i)).cv := by
        match i, hlt with
        | 0, _ => rfl
        | 1, _ => rfl
        | 2, _ => rfl
        | 3, _ => rfl
      have hsl : ∀ (c2 : Nat), FV.t (.s (.sl 5 0 ((clM k m i).set (cA k.wptr i) (clV k i)).l.length c2)) = FV.rn (fun k => [0, 1, 2, 3, 4, 5].getD k 0) (.t (.s (.sl 5 0 m.l.length c2))) := fun c2 => by rw [set_len, hlen]; rfl
      have her : ∀ {ρ : Nat → Nat}, FV.t (.s (.int .i64 ((clM k m i).err (cA k.wptr i)))) = FV.rn ρ (.t (.s (.int .i64 (m.err (cA k.wptr i))))) := fun {ρ} => by rw [clM_err]; rfl
      refine c_mergeA (α := Nat) (fun c2 => m.l.length ≤ c2) (fun c2 => [(1, .t (.s (.sl 0 0 m.l.length cap)), none), (2, .t (.s (.int .i32 n)), none), (3, .t (.s (.loc 1 0)), none), (6, .t (.s (.loc 2 0)), none), (9, .t (.s (.sl 4 0 m.l.length c)), none), (10, .t (.s (.sl 3 0 4 4)), none), (11, .t (.s (.int .i64 (i : Int))), none), (12, .t (.s (.sl 5 0 m.l.length c2)), none), (13, .t (.s (.int .i64 (m.err (cA k.wptr i)))), none)])
        (fun _ => [.view (bytesI m.l), .blk 26 k.sv, .blk 26 Core.zero.sv, .own 21 1 4 [.int .i32 k.c, .int .i32 k.b, .int .i32 k.a, .int .i32 k.iptr], .view (bytesI (clM k m i).l), .view (bytesI (clM k m (i + 1)).l)]) (fun key => ?ways) ?cont
      case ways =>
        refine c_waysH tt_ok ctCl_ok k_r28_call [1] rfl rfl rfl ?_
        repeat' (first | exact trivial | (refine ⟨rfl, trivial⟩) | (refine ⟨cA k.wptr i, ⟨⟨hok.wptr, I32_wrap _⟩, wd_cA' hlt⟩, ?_⟩) | (refine ⟨i, ⟨rfl, hlt, by show 0 + (i + 1) * (0 + 1) ≤ 4; omega⟩, ?_⟩) | (refine ⟨.int .i32 (clV k i), rfl, hv, ?_⟩) | (refine ⟨clM k m i, ⟨hlen.symm, rfl, I32_wrap _, by rw [hlen]; exact hcc⟩, fun c2 hc2 => ?_⟩) | (refine And.intro ?_ ?_))
        all_goals
          refine WpE.into ?_ (key c2 (by rw [hlen] at hc2; exact hc2))
          exact into [0, 1, 2, 3, 4, 5] ⟨⟨_, rfl, rfl⟩, ⟨_, rfl, rfl⟩, ⟨_, rfl, rfl⟩, ⟨_, rfl, rfl⟩, ⟨_, rfl, rfl⟩, ⟨_, rfl, rfl⟩, ⟨_, rfl, rfl⟩, ⟨_, rfl, hsl c2⟩, ⟨_, rfl, her⟩, trivial⟩ ⟨_, rfl, rfl⟩ rfl rfl rfl rfl
      case cont =>
        intro c2 hc2
        refine e_run tt_ok ctCl_ok k_r28_call [] 90 (by kernel_rfl) ?_
        refine ⟨fun h1 => ?_, fun h1 => ?_⟩
        · have hb := clE_bad hlt he (by simpa using h1)
          rw [show finR (Mach.call ⟨k, 0, m⟩ n) = (.zero, 4, m) by unfold Mach.call; dsimp only; rw [hb]; exact finR_bad hb] at hK
          refine WpE.into (aliasSlot 7 0 0 m.l.length cap rfl rfl) ?_
          refine fin_k tt_ok (rs := rs_r28_call) rfl rfl (hK cap hc) [0, 6] rfl ?_ rfl rfl rfl rfl
          rw [view_seg]; rfl
        · have h0 : m.err (cA k.wptr i) = 0 := by simpa using h1
          refine e_again (i + 1, c2) ⟨by show i + 1 ≤ 4; omega, hc2, fun j hj => ?_⟩ (by show 4 - (i + 1) < 4 - i; omega) (into [0, 1, 2, 3, 5] ⟨⟨_, rfl, rfl⟩, ⟨_, rfl, rfl⟩, ⟨_, rfl, rfl⟩, ⟨_, rfl, rfl⟩, ⟨_, rfl, rfl⟩, ⟨_, rfl, rfl⟩, ⟨_, rfl, fvi (wrapSucc (by omega))⟩, trivial⟩ ⟨_, rfl, rfl⟩ rfl rfl rfl rfl)
          rcases Nat.lt_or_ge j i with h2 | h2
          · exact he j h2
          · rw [show j = i by simp only at hj; omega]; exact h0
    · have h4 : i = 4 := by have := of_decide_eq_false h; omega
      subst h4
      have hb := clE_ok he
      have hb0 : callE k.wptr 0 m = 0 := by simpa using hb
      have hf : callF k (callE k.wptr 0 m) m = 0 := by rw [callF_eq, hb0, hb0]
      rw [show finR (Mach.call ⟨k, 0, m⟩ n) = ({ k with a := k.iptr, wptr := IntKind.i32.wrap (k.wptr - 16), iptr := IntKind.i32.wrap (k.iptr + n) }, 0, callM k m) by
        unfold Mach.call; dsimp only; rw [hb]
        exact finR_ok (by show (callF k (callE k.wptr 0 m) m != 0) = false; rw [hf]; rfl)] at hK
      refine ⟨IntKind.i32.wrap (k.wptr - 16), ⟨⟨hok.wptr, by unfold I32; decide⟩, by unfold Wd; rw [IntKind.wrap_i32]; omega⟩, ?_⟩
      refine ⟨IntKind.i32.wrap (k.iptr + n), ⟨i64_rng _, wr_add hok.iptr hn⟩, ?_⟩
      have hcl : (callM k m).l.length = m.l.length := by unfold callM; simp only [set_len]
      have hK2 : K _ [.view (bytesI m.l), .view (bytesI (callM k m).l)] := hK c hcc
      dsimp only at hK2
      rw [hcl] at hK2
      exact fin_k tt_ok (rs := rs_r28_call) rfl rfl hK2 [0, 4] rfl rfl rfl rfl rfl rfl
noncomputable abbrev eRcall : Ent := .st (conS (P := Tryz.prog) (f := f_r28_call) fun cargs σ0 => match cargs, σ0 with
  | [.agg cs, .s (.sl 0 0 n cap), .s (.int .i32 v)], [.view xs] => withCore cs fun k hk => some ⟨.ex (Ram × Core × Int × Ram) fun p => .ask (n = p.1.l.length ∧ xs = bytesI p.1.l ∧ (k.ok ∧ I32 v ∧ p.1.l.length ≤ cap) ∧ finR (Mach.call ⟨k, 0, p.1⟩ v) = p.2) (ROut p.1 p.2), fun K h => by
      obtain ⟨⟨m, r⟩, ⟨e1, e2, ⟨h1, h2, h3⟩, e3⟩, h⟩ := h
      dsimp only at e1 e2 h1 h2 h3 e3 h
      subst e1; subst e2; subst hk; subst e3
      exact rcall_c k m cap v h1 h2 h3 K h⟩
  | _, _ => none)
theorem errW_same {m : Ram} {a v : Int} (h : (m.err a != 0) = true) : m.set a v = m := by
  cases hb : wBad m a with
  | true => exact set_bad hb v
  | false => unfold Ram.err at h; rw [hb] at h; cases h
noncomputable abbrev ctRf : CT := [(f_r28_word, eRwT), (f_r03_Word, eRWordT), (f_r03_SetWord, eRSetWordT), (f_r01_Wrap, eRWrapT), (f_r28_push, .pure spRPush), (f_r28_pop, .pure spRPop), (f_r28_truth, .pure spRTruth), (f_r01_Add, .pure sprAdd), (f_r28_call, eRcall)]
theorem ctRf_ok : CTok Tryz.prog ctRf := ⟨con_ok cal_r28_word _, con_ok cal_r03_Word _, con_ok cal_r03_SetWord _, con_ok cal_r01_Wrap _, ceRPush, ceRPop, ceRTruth, cerAdd, con_ok cal_r28_call _, trivial⟩
set_option maxHeartbeats 8000000 in
theorem rfunction_c (k : Core) (m : Ram) (cap : Nat) (f n : Int) (hok : k.ok) (hn : I32 n) (hc : m.l.length ≤ cap) : Con Tryz.prog f_r28_function [.agg k.sv, .s (.sl 0 0 m.l.length cap), .agg [.int .u8 f, .int .i32 n]] [.view (bytesI m.l)] (ROut m (finR (Mach.fn ⟨k, 0, m⟩ f n))) := by
  intro K hK
  refine enter fn_r28_function rfl nt_r28_function rfl rfl (fun φ w0 β0 F => ?_)
  refine c_run tt_ok ctRf_ok k_r28_function [] 120 (by kernel_rfl) ?_
  refine ⟨fun h0 => ?_, fun h0 => ⟨fun h1 => ?_, fun h1 => ⟨fun h2 => ?_, fun h2 => ⟨fun h3 => ?_, fun h3 => ⟨fun h4 => ?_, fun h4 => ⟨fun h5 => ?_, fun h5 => ⟨fun h6 => ?_, fun h6 => ⟨fun h7 => ?_, fun h7 => ⟨fun h8 => ?_, fun h8 => ⟨fun h9 => ?_, fun h9 => ⟨fun h10 => ?_, fun h10 => ⟨fun h11 => ?_, fun h11 => ⟨fun h12 => ?_, fun h12 => ?_⟩⟩⟩⟩⟩⟩⟩⟩⟩⟩⟩⟩⟩
  -- CASES
  · have e : f = 0 := eq_of_beq (show (f == 0) = true from h0)
    subst e
    refine ⟨IntKind.i32.wrap (k.iptr + n), ⟨i64_rng _, wr_add hok.iptr hn⟩, fun h => absurd h (by decide), fun _ => ?_⟩
    rw [show finR (Mach.fn ⟨k, 0, m⟩ 0 n) = ({ k with iptr := IntKind.i32.wrap (k.iptr + n) }, 0, m) from rfl] at hK
    refine WpE.into (aliasSlot 7 0 0 m.l.length cap rfl rfl) ?_
    refine fin_k tt_ok (rs := rs_r28_function) rfl rfl (hK cap hc) [0, 4] rfl ?_ rfl rfl rfl rfl
    rw [view_seg]; rfl
  · have e : f = 1 := eq_of_beq (show (f == 1) = true from h1)
    subst e
    refine c_waysH tt_ok ctRf_ok k_r28_function [2] rfl rfl rfl ?_
    repeat' (first | exact trivial | (refine ⟨rfl, trivial⟩) | (refine ⟨at4 k.wptr n, ⟨⟨hok.wptr, hn⟩, wd_at⟩, ?_⟩) | (refine And.intro ?_ ?_))
    all_goals
      refine e_run tt_ok ctRf_ok k_r28_function [] 60 (by kernel_rfl) ?_
      refine ⟨fun h => absurd h (by decide), fun _ => ?_⟩
      rw [show finR (Mach.fn ⟨k, 0, m⟩ 1 n) = (k.push (at4 k.wptr n), 0, m) from rfl] at hK
      refine WpE.into (aliasSlot 7 0 0 m.l.length cap rfl rfl) ?_
      refine fin_k tt_ok (rs := rs_r28_function) rfl rfl (hK cap hc) [0, 4] rfl ?_ rfl rfl rfl rfl
      rw [view_seg]; rfl
  · have e : f = 3 := eq_of_beq (show (f == 3) = true from h2)
    subst e
    refine ⟨at4 k.a n, ⟨⟨hok.a, hn⟩, wd_at⟩, m, ⟨rfl, rfl, I32_wrap _⟩, ?_⟩
    rw [show Mach.fn ⟨k, 0, m⟩ 3 n = Mach.mk { k with a := m.word (at4 k.a n) } (eOr 0 (m.err (at4 k.a n))) m from rfl] at hK
    refine ⟨fun h => ?_, fun h => ?_⟩
    · rw [finR_bad (y := Mach.mk { k with a := m.word (at4 k.a n) } (eOr 0 (m.err (at4 k.a n))) m) h] at hK
      refine WpE.into (aliasSlot 7 0 0 m.l.length cap rfl rfl) ?_
      refine fin_k tt_ok (rs := rs_r28_function) rfl rfl (hK cap hc) [0, 4] rfl ?_ rfl rfl rfl rfl
      rw [view_seg]; rfl
    · rw [finR_ok (y := Mach.mk { k with a := m.word (at4 k.a n) } (eOr 0 (m.err (at4 k.a n))) m) h] at hK
      refine WpE.into (aliasSlot 7 0 0 m.l.length cap rfl rfl) ?_
      refine fin_k tt_ok (rs := rs_r28_function) rfl rfl (hK cap hc) [0, 4] rfl ?_ rfl rfl rfl rfl
      rw [view_seg]; rfl
  · have e : f = 4 := eq_of_beq (show (f == 4) = true from h3)
    subst e
    refine ⟨trivial, fun h => absurd h (by decide), fun _ => ?_⟩
    rw [show finR (Mach.fn ⟨k, 0, m⟩ 4 n) = (k.push n, 0, m) from rfl] at hK
    refine WpE.into (aliasSlot 7 0 0 m.l.length cap rfl rfl) ?_
    refine fin_k tt_ok (rs := rs_r28_function) rfl rfl (hK cap hc) [0, 4] rfl ?_ rfl rfl rfl rfl
    rw [view_seg]; rfl
  · have e : f = 5 := eq_of_beq (show (f == 5) = true from h4)
    subst e
    refine ⟨at4 k.a n, ⟨⟨hok.a, hn⟩, wd_at⟩, fun h => absurd h (by decide), fun _ => ?_⟩
    rw [show finR (Mach.fn ⟨k, 0, m⟩ 5 n) = ({ k with a := at4 k.a n }, 0, m) from rfl] at hK
    refine WpE.into (aliasSlot 7 0 0 m.l.length cap rfl rfl) ?_
    refine fin_k tt_ok (rs := rs_r28_function) rfl rfl (hK cap hc) [0, 4] rfl ?_ rfl rfl rfl rfl
    rw [view_seg]; rfl
  · have e : f = 7 := eq_of_beq (show (f == 7) = true from h5)
    subst e
    refine ⟨at4 k.wptr n, ⟨⟨hok.wptr, hn⟩, wd_at⟩, m, ⟨rfl, rfl, I32_wrap _⟩, trivial, ?_⟩
    rw [show Mach.fn ⟨k, 0, m⟩ 7 n = Mach.mk (k.push (m.word (at4 k.wptr n))) (eOr 0 (m.err (at4 k.wptr n))) m from rfl] at hK
    refine ⟨fun h => ?_, fun h => ?_⟩
    · rw [finR_bad (y := Mach.mk (k.push (m.word (at4 k.wptr n))) (eOr 0 (m.err (at4 k.wptr n))) m) h] at hK
      refine WpE.into (aliasSlot 7 0 0 m.l.length cap rfl rfl) ?_
      refine fin_k tt_ok (rs := rs_r28_function) rfl rfl (hK cap hc) [0, 4] rfl ?_ rfl rfl rfl rfl
      rw [view_seg]; rfl
    · rw [finR_ok (y := Mach.mk (k.push (m.word (at4 k.wptr n))) (eOr 0 (m.err (at4 k.wptr n))) m) h] at hK
      refine WpE.into (aliasSlot 7 0 0 m.l.length cap rfl rfl) ?_
      refine fin_k tt_ok (rs := rs_r28_function) rfl rfl (hK cap hc) [0, 4] rfl ?_ rfl rfl rfl rfl
      rw [view_seg]; rfl
  · have e : f = 8 := eq_of_beq (show (f == 8) = true from h6)
    subst e
    refine ⟨⟨hok.a, hn⟩, fun h => absurd h (by decide), fun _ => ?_⟩
    rw [show finR (Mach.fn ⟨k, 0, m⟩ 8 n) = (({ k with a := Wd (k.a + n) }).check (wdO (k.a + n)), 0, m) from rfl] at hK
    refine WpE.into (aliasSlot 7 0 0 m.l.length cap rfl rfl) ?_
    refine fin_k tt_ok (rs := rs_r28_function) rfl rfl (hK cap hc) [0, 4] rfl ?_ rfl rfl rfl rfl
    rw [view_seg]; rfl
  · have e : f = 9 := eq_of_beq (show (f == 9) = true from h7)
    subst e
    rw [show Mach.fn ⟨k, 0, m⟩ 9 n = Mach.call ⟨k, 0, m⟩ n from rfl] at hK
    obtain ⟨r, hr⟩ : ∃ r, finR (Mach.call ⟨k, 0, m⟩ n) = r := ⟨_, rfl⟩
    rw [hr] at hK
    obtain ⟨k', e', m'⟩ := r
    refine ⟨(m, k', e', m'), ⟨rfl, rfl, ⟨hok, hn, hc⟩, hr⟩, fun c h2 => ?_⟩
    exact fin_k tt_ok (rs := rs_r28_function) rfl rfl (hK c h2) [0, 4] rfl rfl rfl rfl rfl rfl
  · have e : f = 10 := eq_of_beq (show (f == 10) = true from h8)
    subst e
    refine ⟨fun h => ⟨IntKind.i32.wrap (k.iptr + n), ⟨i64_rng _, wr_add hok.iptr hn⟩, fun h => absurd h (by decide), fun _ => ?_⟩, fun h => ⟨trivial, fun h => absurd h (by decide), fun _ => ?_⟩⟩
    · rw [show finR (Mach.fn ⟨k, 0, m⟩ 10 n) = ({ k with iptr := IntKind.i32.wrap (k.iptr + n) }, 0, m) by rw [show Mach.fn ⟨k, 0, m⟩ 10 n = (bif k.a == 0 then ⟨{ k with iptr := IntKind.i32.wrap (k.iptr + n) }, 0, m⟩ else ⟨k.pop, 0, m⟩) from rfl, show (k.a == 0) = true from h]; rfl] at hK
      refine WpE.into (aliasSlot 7 0 0 m.l.length cap rfl rfl) ?_
      refine fin_k tt_ok (rs := rs_r28_function) rfl rfl (hK cap hc) [0, 4] rfl ?_ rfl rfl rfl rfl
      rw [view_seg]; rfl
    · rw [show finR (Mach.fn ⟨k, 0, m⟩ 10 n) = (k.pop, 0, m) by rw [show Mach.fn ⟨k, 0, m⟩ 10 n = (bif k.a == 0 then ⟨{ k with iptr := IntKind.i32.wrap (k.iptr + n) }, 0, m⟩ else ⟨k.pop, 0, m⟩) from rfl, show (k.a == 0) = false from h]; rfl] at hK
      refine WpE.into (aliasSlot 7 0 0 m.l.length cap rfl rfl) ?_
      refine fin_k tt_ok (rs := rs_r28_function) rfl rfl (hK cap hc) [0, 4] rfl ?_ rfl rfl rfl rfl
      rw [view_seg]; rfl
  · have e : f = 11 := eq_of_beq (show (f == 11) = true from h9)
    subst e
    refine ⟨at4 k.wptr n, ⟨⟨hok.wptr, hn⟩, wd_at⟩, fun h => absurd h (by decide), fun _ => ?_⟩
    rw [show finR (Mach.fn ⟨k, 0, m⟩ 11 n) = ({ k with wptr := at4 k.wptr n }, 0, m) from rfl] at hK
    refine WpE.into (aliasSlot 7 0 0 m.l.length cap rfl rfl) ?_
    refine fin_k tt_ok (rs := rs_r28_function) rfl rfl (hK cap hc) [0, 4] rfl ?_ rfl rfl rfl rfl
    rw [view_seg]; rfl
  · have e : f = 12 := eq_of_beq (show (f == 12) = true from h10)
    subst e
    refine ⟨trivial, fun h => absurd h (by decide), fun _ => ?_⟩
    rw [show finR (Mach.fn ⟨k, 0, m⟩ 12 n) = ({ k with a := trI (k.a == n) }, 0, m) from rfl] at hK
    refine WpE.into (aliasSlot 7 0 0 m.l.length cap rfl rfl) ?_
    refine fin_k tt_ok (rs := rs_r28_function) rfl rfl (hK cap hc) [0, 4] rfl ?_ rfl rfl rfl rfl
    rw [view_seg]; rfl
  · have e : f = 13 := eq_of_beq (show (f == 13) = true from h11)
    subst e
    refine c_waysH tt_ok ctRf_ok k_r28_function [1, 2] rfl rfl rfl ?_
    repeat' (first | exact trivial | (refine ⟨rfl, rfl, trivial⟩) | (refine ⟨at4 k.wptr n, ⟨⟨hok.wptr, hn⟩, wd_at⟩, ?_⟩) | (refine ⟨m, ⟨rfl, rfl, I32_wrap _, hc⟩, fun c2 hc2 => ?_⟩) | (refine And.intro ?_ ?_))
    all_goals
      refine e_run tt_ok ctRf_ok k_r28_function [] 60 (by kernel_rfl) ?_
      refine ⟨trivial, ?_⟩
      rw [show Mach.fn ⟨k, 0, m⟩ 13 n = Mach.mk (k.pop) (eOr 0 (m.err (at4 k.wptr n))) (m.set (at4 k.wptr n) k.a) from rfl] at hK
      refine ⟨fun h => ?_, fun h => ?_⟩
      · rw [finR_bad (y := Mach.mk (k.pop) (eOr 0 (m.err (at4 k.wptr n))) (m.set (at4 k.wptr n) k.a)) h] at hK
        rw [show (Mach.mk (k.pop) (eOr 0 (m.err (at4 k.wptr n))) (m.set (at4 k.wptr n) k.a)).m = m from errW_same h] at hK
        refine WpE.into (aliasSlot 7 0 0 m.l.length cap rfl rfl) ?_
        refine fin_k tt_ok (rs := rs_r28_function) rfl rfl (hK cap hc) [0, 5] rfl ?_ rfl rfl rfl rfl
        rw [view_seg]; rfl
      · rw [finR_ok (y := Mach.mk (k.pop) (eOr 0 (m.err (at4 k.wptr n))) (m.set (at4 k.wptr n) k.a)) h] at hK
        exact fin_k tt_ok (rs := rs_r28_function) rfl rfl (hK c2 hc2) [0, 4] rfl rfl rfl rfl rfl rfl
  · have e : f = 14 := eq_of_beq (show (f == 14) = true from h12)
    subst e
    refine c_waysH tt_ok ctRf_ok k_r28_function [1, 2] rfl rfl rfl ?_
    repeat' (first | exact trivial | (refine ⟨rfl, rfl, trivial⟩) | (refine ⟨at4 k.a n, ⟨⟨hok.a, hn⟩, wd_at⟩, ?_⟩) | (refine ⟨m, ⟨rfl, rfl, I32_wrap _, hc⟩, fun c2 hc2 => ?_⟩) | (refine And.intro ?_ ?_))
    all_goals
      refine e_run tt_ok ctRf_ok k_r28_function [] 60 (by kernel_rfl) ?_
      refine ⟨trivial, trivial, ?_⟩
      rw [show Mach.fn ⟨k, 0, m⟩ 14 n = Mach.mk (k.pop.pop) (eOr 0 (m.err (at4 k.a n))) (m.set (at4 k.a n) k.b) from rfl] at hK
      refine ⟨fun h => ?_, fun h => ?_⟩
      · rw [finR_bad (y := Mach.mk (k.pop.pop) (eOr 0 (m.err (at4 k.a n))) (m.set (at4 k.a n) k.b)) h] at hK
        rw [show (Mach.mk (k.pop.pop) (eOr 0 (m.err (at4 k.a n))) (m.set (at4 k.a n) k.b)).m = m from errW_same h] at hK
        refine WpE.into (aliasSlot 7 0 0 m.l.length cap rfl rfl) ?_
        refine fin_k tt_ok (rs := rs_r28_function) rfl rfl (hK cap hc) [0, 5] rfl ?_ rfl rfl rfl rfl
        rw [view_seg]; rfl
      · rw [finR_ok (y := Mach.mk (k.pop.pop) (eOr 0 (m.err (at4 k.a n))) (m.set (at4 k.a n) k.b)) h] at hK
        exact fin_k tt_ok (rs := rs_r28_function) rfl rfl (hK c2 hc2) [0, 4] rfl rfl rfl rfl rfl rfl
  · rw [show finR (Mach.fn ⟨k, 0, m⟩ f n) = (k, 0, m) by
      unfold Mach.fn
      simp only [show (f == 0) = false from h0, show (f == 1) = false from h1, show (f == 3) = false from h2, show (f == 4) = false from h3, show (f == 5) = false from h4, show (f == 7) = false from h5, show (f == 8) = false from h6, show (f == 9) = false from h7, show (f == 10) = false from h8, show (f == 11) = false from h9, show (f == 12) = false from h10, show (f == 13) = false from h11, show (f == 14) = false from h12, cond_false]
      rfl] at hK
    refine ⟨fun h => absurd h (by decide), fun _ => ?_⟩
    refine WpE.into (aliasSlot 7 0 0 m.l.length cap rfl rfl) ?_
    refine fin_k tt_ok (rs := rs_r28_function) rfl rfl (hK cap hc) [0, 4] rfl ?_ rfl rfl rfl rfl
    rw [view_seg]; rfl
-- TAIL
end Go.Proofs
