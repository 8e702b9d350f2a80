/- Values of fit kinds. -/
import Derived.Test.YtgmjidajikhimaaGreatSxC
import Derived.Test.YtgmjidajikhimaaGreatWalkG

namespace Go.Proofs
open Go Go.Sx
theorem u8_fit {x : Int} (h : (Lit.int .u8 x).wf = true) : 0 ≤ x ∧ x < 256 := by
  simp [Lit.wf, IntKind.min, IntKind.max, IntKind.signed, IntKind.bits] at h
  omega
theorem i64_fit {x : Int} (h : (Lit.int .i64 x).wf = true) : -9223372036854775808 ≤ x ∧ x ≤ 9223372036854775807 := by
  simp [Lit.wf, IntKind.min, IntKind.max, IntKind.signed, IntKind.bits] at h
  omega
end Go.Proofs

namespace Go.Proofs
open Go Go.Sx
set_option maxRecDepth 10000
/-- An address of a word of a memory of 1024 bytes. -/
def inA (a : Int) : Prop := a % 4 = 0 ∧ -2147483648 ≤ a ∧ a < -2147482624
theorem inA_bad {m : Ram} {a : Int} (hl : m.l.length = 1024) (ha : inA a) : wBad m a = false := by
  unfold inA at ha
  unfold wBad spanBad ofAt wAt
  rw [hl, show decide (a - a % 4 + 2147483648 ≥ ((1024 : Nat) : Int)) = false by simp; omega]
  simp; omega
theorem inA_err {m : Ram} {a : Int} (hl : m.l.length = 1024) (ha : inA a) : m.err a = 0 := by unfold Ram.err; rw [inA_bad hl ha]; rfl
theorem inA_i32 {a : Int} (ha : inA a) : I32 a := by unfold inA at ha; unfold I32; omega
theorem word_set {m : Ram} {a b v : Int} (hl : m.l.length = 1024) (ha : inA a) (hb : inA b) (hv : I32 v) : (m.set a v).word b = if a = b then v else m.word b := by
  have h1 := inA_bad hl ha
  have h2 := inA_bad hl hb
  have hA := wBad_nat h1
  have hB := wBad_nat h2
  unfold Ram.word
  rw [set_wBad, h2, set_ok h1]
  simp only [cond_false]
  split
  · rename_i e; subst e; exact getW_setW hA hv
  · rename_i hne
    unfold inA at ha hb
    unfold ofAt wAt at *
    unfold getW setW
    rw [stW_get hA 4 (by decide), stW_get hA 4 (by decide), stW_get hA 4 (by decide), stW_get hA 4 (by decide)]
    rw [if_neg (by omega), if_neg (by omega), if_neg (by omega), if_neg (by omega)]
theorem z_len : Ram.z.l.length = 1024 := List.length_replicate ..
def Live (k : Core) : Prop := k.pri.fdiv 2 = 0 ∧ k.busy = true
theorem exP_live {k : Core} {m : Ram} {fn o : Int} {x : Mach} (hk : Live k) (hm : mineB fn o = true) (hx : opX ⟨k, 0, m⟩ fn o = x) (he : x.e = 0) : exP k m fn o = (x.k, 0, x.m) := by
  unfold exP
  rw [hk.1, hk.2, hm, hx]
  show finR x = _
  unfold finR
  rw [he]; rfl
/-- A workspace with room in a memory of 1024 bytes. -/
def roomy (w : Int) : Prop := w % 4 = 0 ∧ -2147483584 ≤ w ∧ w < -2147482624
def callK (k : Core) (n : Int) : Core := { k with a := k.iptr, wptr := IntKind.i32.wrap (k.wptr - 16), iptr := IntKind.i32.wrap (k.iptr + n) }
theorem w32 {n : Int} (h1 : -2147483648 ≤ n) (h2 : n < 2147483648) : IntKind.i32.wrap n = n := by rw [IntKind.wrap_i32]; omega
theorem cA_r {w : Int} (h : roomy w) : cA w 0 = w - 4 ∧ cA w 1 = w - 8 ∧ cA w 2 = w - 12 ∧ cA w 3 = w - 16 := by
  unfold roomy at h; unfold cA
  simp only [IntKind.wrap_i32]; omega
theorem sub_in {w : Int} (h : roomy w) (d : Int) (h0 : 0 ≤ d) (h1 : d ≤ 64) (h4 : d % 4 = 0) : inA (w - d) := by unfold roomy at h; unfold inA; omega
theorem callM_len (k : Core) {m : Ram} (hl : m.l.length = 1024) : (callM k m).l.length = 1024 := by unfold callM; simp only [set_len]; exact hl
theorem call_run {k : Core} {m : Ram} {n : Int} (hl : m.l.length = 1024) (hk : Live k) (h : roomy k.wptr) (t : List (Int × Int)) : runR k m ((9, n) :: t) = runR (callK k n) (callM k m) t := by
  obtain ⟨c0, c1, c2, c3⟩ := cA_r h
  have i0 := sub_in h 4 (by decide) (by decide) (by decide)
  have i1 := sub_in h 8 (by decide) (by decide) (by decide)
  have i2 := sub_in h 12 (by decide) (by decide) (by decide)
  have i3 := sub_in h 16 (by decide) (by decide) (by decide)
  have hE : callE k.wptr 0 m = 0 := by unfold callE; rw [c0, c1, c2, c3, inA_err hl i0, inA_err hl i1, inA_err hl i2, inA_err hl i3]; rfl
  refine runR_cons (exP_live (x := ⟨callK k n, 0, callM k m⟩) hk rfl ?_ rfl)
  show Mach.call ⟨k, 0, m⟩ n = _
  unfold Mach.call
  simp only [callF_eq, hE]
  rfl
/-- What a called procedure finds. -/
structure Frame (k : Core) (M : Ram) : Prop where
  len : M.l.length = 1024
  w0 : M.word (k.wptr - 16) = k.iptr
  w1 : M.word (k.wptr - 12) = k.a
  w2 : M.word (k.wptr - 8) = k.b
  w3 : M.word (k.wptr - 4) = k.c
theorem callM_frame {k : Core} {m : Ram} (hok : k.ok) (hl : m.l.length = 1024) (h : roomy k.wptr) : Frame k (callM k m) := by
  obtain ⟨c0, c1, c2, c3⟩ := cA_r h
  have i0 := sub_in h 4 (by decide) (by decide) (by decide)
  have i1 := sub_in h 8 (by decide) (by decide) (by decide)
  have i2 := sub_in h 12 (by decide) (by decide) (by decide)
  have i3 := sub_in h 16 (by decide) (by decide) (by decide)
  have l1 : (m.set (k.wptr - 4) k.c).l.length = 1024 := by rw [set_len]; exact hl
  have l2 : ((m.set (k.wptr - 4) k.c).set (k.wptr - 8) k.b).l.length = 1024 := by rw [set_len]; exact l1
  have l3 : (((m.set (k.wptr - 4) k.c).set (k.wptr - 8) k.b).set (k.wptr - 12) k.a).l.length = 1024 := by rw [set_len]; exact l2
  refine ⟨callM_len k hl, ?_, ?_, ?_, ?_⟩ <;> unfold callM <;> rw [c0, c1, c2, c3]
  · rw [word_set l3 i3 i3 hok.iptr, if_pos rfl]
  · rw [word_set l3 i3 i2 hok.iptr, if_neg (by omega), word_set l2 i2 i2 hok.a, if_pos rfl]
  · rw [word_set l3 i3 i1 hok.iptr, if_neg (by omega), word_set l2 i2 i1 hok.a, if_neg (by omega), word_set l1 i1 i1 hok.b, if_pos rfl]
  · rw [word_set l3 i3 i0 hok.iptr, if_neg (by omega), word_set l2 i2 i0 hok.a, if_neg (by omega), word_set l1 i1 i0 hok.b, if_neg (by omega), word_set hl i0 i0 hok.c, if_pos rfl]
theorem ldl_run {k : Core} {m : Ram} {n v a : Int} (hl : m.l.length = 1024) (hk : Live k) (ha : at4 k.wptr n = a) (h : inA a) (hv : m.word a = v) (t : List (Int × Int)) : runR k m ((7, n) :: t) = runR (k.push v) m t := by
  refine runR_cons (exP_live (x := ⟨k.push v, 0, m⟩) hk rfl ?_ rfl)
  show Mach.fn ⟨k, 0, m⟩ 7 n = _
  show Mach.mk (k.push (m.word (at4 k.wptr n))) (eOr 0 (m.err (at4 k.wptr n))) m = _
  rw [ha, hv, inA_err hl h]; rfl
theorem at4_r {w : Int} (h : roomy w) : at4 (IntKind.i32.wrap (w - 16)) 3 = w - 4 ∧ at4 (IntKind.i32.wrap (w - 16)) 2 = w - 8 ∧ at4 (IntKind.i32.wrap (w - 16)) 1 = w - 12 ∧ at4 (at4 (IntKind.i32.wrap (w - 16)) (-3)) 3 = w - 16 ∧ IntKind.i32.wrap (w - 16 + 16) = w := by
  unfold roomy at h; unfold at4
  simp only [IntKind.wrap_i32]; omega
theorem loads_run {k : Core} {M : Ram} {n : Int} (hk : Live k) (h : roomy k.wptr) (f : Frame k M) : runR (callK k n) M [(7, 3), (7, 2), (7, 1)] = ({ k with wptr := IntKind.i32.wrap (k.wptr - 16), iptr := IntKind.i32.wrap (k.iptr + n) }, 0, M) := by
  obtain ⟨a3, a2, a1, _⟩ := at4_r h
  rw [ldl_run (k := callK k n) f.len hk a3 (sub_in h 4 (by decide) (by decide) (by decide)) f.w3]
  rw [ldl_run f.len (by exact hk) (by exact a2) (sub_in h 8 (by decide) (by decide) (by decide)) f.w2]
  rw [ldl_run f.len (by exact hk) (by exact a1) (sub_in h 12 (by decide) (by decide) (by decide)) f.w1]
  rfl
theorem back_run {k : Core} {M : Ram} {n x y : Int} (hk : Live k) (h : roomy k.wptr) (f : Frame k M) : runR { k with wptr := IntKind.i32.wrap (k.wptr - 16), iptr := IntKind.i32.wrap (k.iptr + n) } M [(4, x), (4, y), (15, 0), (11, -3), (11, 3), (15, 32)] = ({ k with a := x, b := y, c := k.a }, 0, M) := by
  obtain ⟨_, _, _, a0, aw⟩ := at4_r h
  have i3 := sub_in h 16 (by decide) (by decide) (by decide)
  rw [runR_cons (exP_live (x := ⟨{ k with a := x, b := k.a, c := k.b, wptr := IntKind.i32.wrap (k.wptr - 16), iptr := IntKind.i32.wrap (k.iptr + n) }, 0, M⟩) (by exact hk) rfl rfl rfl)]
  rw [runR_cons (exP_live (x := ⟨{ k with a := y, b := x, c := k.a, wptr := IntKind.i32.wrap (k.wptr - 16), iptr := IntKind.i32.wrap (k.iptr + n) }, 0, M⟩) (by exact hk) rfl rfl rfl)]
  rw [runR_cons (exP_live (x := ⟨{ k with a := x, b := y, c := k.a, wptr := IntKind.i32.wrap (k.wptr - 16), iptr := IntKind.i32.wrap (k.iptr + n) }, 0, M⟩) (by exact hk) rfl rfl rfl)]
  rw [runR_cons (exP_live (x := ⟨{ k with a := x, b := y, c := k.a, wptr := at4 (IntKind.i32.wrap (k.wptr - 16)) (-3), iptr := IntKind.i32.wrap (k.iptr + n) }, 0, M⟩) (by exact hk) rfl rfl rfl)]
  rw [runR_cons (exP_live (x := ⟨{ k with a := x, b := y, c := k.a, wptr := k.wptr - 16, iptr := IntKind.i32.wrap (k.iptr + n) }, 0, M⟩) (by exact hk) rfl (by show Mach.mk { k with a := x, b := y, c := k.a, wptr := at4 (at4 (IntKind.i32.wrap (k.wptr - 16)) (-3)) 3, iptr := IntKind.i32.wrap (k.iptr + n) } 0 M = _; rw [a0]) rfl)]
  refine (runR_cons (exP_live (x := ⟨{ k with a := x, b := y, c := k.a }, 0, M⟩) (by exact hk) rfl ?_ rfl)).trans rfl
  show Mach.mk { k with a := x, b := y, c := k.a, iptr := M.word (k.wptr - 16), wptr := IntKind.i32.wrap (k.wptr - 16 + 16) } (eOr 0 (M.err (k.wptr - 16))) M = _
  rw [f.w0, aw, inA_err f.len i3]; rfl
end Go.Proofs

namespace Go.Proofs
open Go Go.Sx
set_option maxRecDepth 10000
/-- The core that runs, with other registers. -/
abbrev rdR (a b c : Int) : Core := ⟨a, b, c, -2147483448, -2147483520, 1, true, false, false, false, 0, 0, 0, 0, 0, 0, 0, 0, 0, 0, false, 0, 0, 0, 0, 0, false, 0⟩
theorem sum_run (alo ahi blo bhi : Int) : runR rdK Ram.z [(4, 0), (4, alo), (4, blo), (15, 55), (13, 0), (4, ahi), (4, bhi), (15, 55)] = (rdR (lgSum ahi bhi (lgSumC alo blo 0)) (lgSumC ahi bhi (lgSumC alo blo 0)) (lgSumC alo blo 0), 0, Ram.z.set (-2147483520) (lgSum alo blo 0)) := by kernel_rfl
theorem diff_run (alo ahi blo bhi : Int) : runR rdK Ram.z [(4, 0), (4, alo), (4, blo), (15, 79), (13, 0), (4, ahi), (4, bhi), (15, 79)] = (rdR (lgDiff ahi bhi (lgDiffC alo blo 0)) (lgDiffC ahi bhi (lgDiffC alo blo 0)) (lgDiffC alo blo 0), 0, Ram.z.set (-2147483520) (lgDiff alo blo 0)) := by kernel_rfl
theorem mul_run (alo ahi blo : Int) : runR rdK Ram.z [(4, ahi), (4, alo), (4, blo), (15, 49)] = (rdR (lgMul blo alo ahi) (lgMulH blo alo ahi) ahi, 0, Ram.z) := by kernel_rfl
theorem sum_law (alo ahi blo bhi : Int) : Dv (lgSum ahi bhi (lgSumC alo blo 0)) (lgSum alo blo 0) = (Dv ahi alo + Dv bhi blo) % 18446744073709551616 := by
  unfold lgSum lgSumC Dv Uw Wd; omega
theorem diff_law (alo ahi blo bhi : Int) : Dv (lgDiff ahi bhi (lgDiffC alo blo 0)) (lgDiff alo blo 0) = (Dv ahi alo - Dv bhi blo) % 18446744073709551616 := by
  unfold lgDiff lgDiffC Dv Uw Wd; omega
theorem mul_law (alo ahi blo : Int) : Dv (lgMulH blo alo ahi) (lgMul blo alo ahi) = Uw alo * Uw blo + Uw ahi := by
  unfold lgMul lgMulH Dv
  have h1 : 0 ≤ Uw alo ∧ Uw alo ≤ 4294967295 := by unfold Uw; omega
  have h2 : 0 ≤ Uw blo ∧ Uw blo ≤ 4294967295 := by unfold Uw; omega
  have h3 : 0 ≤ Uw ahi ∧ Uw ahi ≤ 4294967295 := by unfold Uw; omega
  rw [Int.mul_comm (Uw blo)]
  have h4 : 0 ≤ Uw alo * Uw blo := Int.mul_nonneg h1.1 h2.1
  have h5 : Uw alo * Uw blo ≤ 4294967295 * 4294967295 := Int.mul_le_mul h1.2 h2.2 h2.1 (by decide)
  generalize Uw alo * Uw blo = P at h4 h5 ⊢
  generalize Uw ahi = Q at h3 ⊢
  unfold Uw Wd
  omega
/-- A loop's words. -/
structure LoopI (first n p : Int) (M : Ram) : Prop where
  len : M.l.length = 1024
  idx : M.word (-2147483348) = IntKind.i32.wrap (first + p - 1)
  cnt : M.word (-2147483344) = n - (p - 1)
theorem iA : inA (-2147483348) := ⟨by decide, by decide, by decide⟩
theorem cA' : inA (-2147483344) := ⟨by decide, by decide, by decide⟩
theorem loop_start {first n : Int} (hf : I32 first) (hn : I32 n) : LoopI first n 1 ((Ram.z.set (-2147483348) first).set (-2147483344) n) := by
  have l1 : (Ram.z.set (-2147483348) first).l.length = 1024 := by rw [set_len]; exact z_len
  refine ⟨by rw [set_len]; exact l1, ?_, ?_⟩
  · rw [word_set l1 cA' iA hn, if_neg (by decide), word_set z_len iA iA hf, if_pos rfl, IntKind.wrap_i32]; unfold I32 at hf; omega
  · rw [word_set l1 cA' cA' hn, if_pos rfl]; omega
theorem lend_more {first n p back : Int} {M : Ram} (h : LoopI first n p M) (hp : 1 ≤ p) (hn : n ≤ 60) (hm : p < n) :
    ∃ M', runR (rdR back (-2147483348) 0) M [(15, 33)] = ({ rdR back (-2147483348) 0 with iptr := IntKind.i32.wrap (-2147483448 - back) }, 0, M') ∧ LoopI first n (p + 1) M' := by
  have hc : IntKind.i32.wrap (M.word (-2147483344) - 1) = n - p := by rw [h.cnt, IntKind.wrap_i32]; omega
  have hi : IntKind.i32.wrap (M.word (-2147483348) + 1) = IntKind.i32.wrap (first + (p + 1) - 1) := by rw [h.idx]; simp only [IntKind.wrap_i32]; omega
  have l1 : (M.set (-2147483344) (n - p)).l.length = 1024 := by rw [set_len]; exact h.len
  refine ⟨(M.set (-2147483344) (n - p)).set (-2147483348) (IntKind.i32.wrap (first + (p + 1) - 1)), ?_, ?_⟩
  · refine (runR_cons (exP_live (x := ⟨{ rdR back (-2147483348) 0 with iptr := IntKind.i32.wrap (-2147483448 - back) }, 0, (M.set (-2147483344) (n - p)).set (-2147483348) (IntKind.i32.wrap (first + (p + 1) - 1))⟩) ⟨rfl, rfl⟩ rfl ?_ rfl)).trans rfl
    show Mach.lend ⟨rdR back (-2147483348) 0, 0, M⟩ = _
    have hw : w4 (rdR back (-2147483348) 0) = -2147483344 := rfl
    have hE : lendE (rdR back (-2147483348) 0) 0 M = 0 := by
      unfold lendE
      rw [hw, inA_err h.len cA', show M.err (rdR back (-2147483348) 0).b = 0 from inA_err h.len iA]; rfl
    have hC : lendC (rdR back (-2147483348) 0) M = n - p := by unfold lendC; rw [hw]; exact hc
    unfold Mach.lend
    simp only [hE, hC, hw, inA_err h.len cA', set_err, inA_err h.len iA, hi, show decide (n - p > 0) = true by simp; omega]
    rfl
  · have h32 : I32 (n - p) := by unfold I32; omega
    refine ⟨by rw [set_len]; exact l1, ?_, ?_⟩
    · rw [word_set l1 iA iA (I32_wrap _), if_pos rfl]
    · rw [word_set l1 iA cA' (I32_wrap _), if_neg (by decide), word_set h.len cA' cA' h32, if_pos rfl]; omega
theorem lend_last {first n p back : Int} {M : Ram} (h : LoopI first n p M) (hp : 1 ≤ p) (hn0 : 0 ≤ n) (hn : n ≤ 60) (hp2 : p ≤ 60) (hm : n ≤ p) :
    ∃ M', runR (rdR back (-2147483348) 0) M [(15, 33)] = (rdR back (-2147483348) 0, 0, M') ∧ M'.l.length = 1024 ∧ M'.word (-2147483348) = IntKind.i32.wrap (first + p - 1) ∧ M'.word (-2147483344) = n - p := by
  have hc : IntKind.i32.wrap (M.word (-2147483344) - 1) = n - p := by rw [h.cnt, IntKind.wrap_i32]; omega
  refine ⟨M.set (-2147483344) (n - p), ?_, ?_, ?_, ?_⟩
  · refine (runR_cons (exP_live (x := ⟨rdR back (-2147483348) 0, 0, M.set (-2147483344) (n - p)⟩) ⟨rfl, rfl⟩ rfl ?_ rfl)).trans rfl
    show Mach.lend ⟨rdR back (-2147483348) 0, 0, M⟩ = _
    have hw : w4 (rdR back (-2147483348) 0) = -2147483344 := rfl
    have hE : lendE (rdR back (-2147483348) 0) 0 M = 0 := by
      unfold lendE
      rw [hw, inA_err h.len cA', show M.err (rdR back (-2147483348) 0).b = 0 from inA_err h.len iA]; rfl
    have hC : lendC (rdR back (-2147483348) 0) M = n - p := by unfold lendC; rw [hw]; exact hc
    unfold Mach.lend
    simp only [hE, hC, hw, inA_err h.len cA', show decide (n - p > 0) = false by simp; omega]
    rfl
  · rw [set_len]; exact h.len
  · rw [word_set h.len cA' iA (by unfold I32; omega), if_neg (by decide)]; exact h.idx
  · rw [word_set h.len cA' cA' (by unfold I32; omega), if_pos rfl]
end Go.Proofs
