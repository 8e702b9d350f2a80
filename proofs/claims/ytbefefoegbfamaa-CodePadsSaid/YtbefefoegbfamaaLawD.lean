/- The plain law of CodePuts: the code's encoding and the reference's. No program in sight. -/
import Derived.Test.YtbefefoegbfamaaLawC
import Derived.Test.YtbefefoegbfamaaSpec

namespace Go.Proofs
open Go Go.Sx

theorem refValid_eq (fn : Int) : refValidS fn = validS fn := by
  unfold refValidS validS
  have : decide (fn < 16) = decide (fn ≤ 15) := by
    by_cases h : fn ≤ 15
    · simp [h]; omega
    · simp [h]; omega
  rw [this]

theorem encB_eq {fn v : Int} (h1 : 0 ≤ fn) (h2 : fn ≤ 15) (hv : InI32 v) : encB fn v = lastB fn v := by
  unfold InI32 at hv
  rw [lastB_eq h1 h2]
  unfold encB
  have hm : v.tmod 16 = if 0 ≤ v then v % 16 else -((-v) % 16) := by
    split
    · exact Int.tmod_eq_emod_of_nonneg (by assumption)
    · have : v = -(-v) := by omega
      rw [this, Int.neg_tmod, Int.tmod_eq_emod_of_nonneg (by omega)]
      simp
  have e1 : IntKind.i64.wrap (v.tmod 16 + 16) = v.tmod 16 + 16 := by rw [wrap64] <;> rw [hm] <;> split <;> omega
  have e2 : (v.tmod 16 + 16).tmod 16 = v % 16 := by
    rw [Int.tmod_eq_emod_of_nonneg (by rw [hm]; split <;> omega), hm]
    split <;> omega
  have e3 : IntKind.i64.wrap (16 * fn) = 16 * fn := wrap64 (by omega) (by omega)
  rw [e1, e2, e3, wrap64 (by omega) (by omega), IntKind.wrap_u8]
  omega

theorem enc_eq : ∀ (n : Nat) (fn v : Int), 0 ≤ fn → fn ≤ 15 → InI32 v → encF n fn v = putF n fn v
  | 0, fn, v, h1, h2, hv => by simp only [encF, putF, encB_eq h1 h2 hv]
  | n + 1, fn, v, h1, h2, hv => by
    have hv' := hv
    unfold InI32 at hv'
    simp only [encF, putF, encB_eq h1 h2 hv, ge_iff_le, gt_iff_lt]
    by_cases hc : v < 0
    · have e1 : IntKind.i64.wrap (-1 - v) = -1 - v := wrap64 (by omega) (by omega)
      have e2 : (-1 - v).tdiv 16 = (-1 - v) / 16 := Int.tdiv_eq_ediv_of_nonneg (by omega)
      have e3 : IntKind.i64.wrap ((-1 - v) / 16) = (-1 - v) / 16 := wrap64 (by omega) (by omega)
      rw [if_neg (by omega), if_pos hc, if_pos hc, e1, e2, e3, notI_i32 hv'.1 hv'.2, fdiv16, enc_eq n 6 _ (by decide) (by decide) (by unfold InI32; omega)]
    · rw [if_neg hc, if_neg hc]
      by_cases hd : 16 ≤ v
      · have e2 : v.tdiv 16 = v / 16 := Int.tdiv_eq_ediv_of_nonneg (by omega)
        have e3 : IntKind.i64.wrap (v / 16) = v / 16 := wrap64 (by omega) (by omega)
        rw [if_pos hd, if_pos (by omega), e2, e3, fdiv16, enc_eq n 2 _ (by decide) (by decide) (by unfold InI32; omega)]
      · rw [if_neg hd, if_neg (by omega)]

theorem encOk_eq : ∀ (n : Nat) (v : Int), InI32 v → PutOk n v → EncOk n v
  | 0, v, _, h => h
  | n + 1, v, hv, h => by
    have hv' := hv
    unfold InI32 at hv'
    refine ⟨fun hc => ?_, fun hc => ?_⟩
    · have e2 : v.tdiv 16 = v / 16 := Int.tdiv_eq_ediv_of_nonneg (by omega)
      have e3 : IntKind.i64.wrap (v / 16) = v / 16 := wrap64 (by omega) (by omega)
      have := h.2 (by omega)
      rw [fdiv16] at this
      rw [e2, e3]
      exact encOk_eq n _ (by unfold InI32; omega) this
    · have e1 : IntKind.i64.wrap (-1 - v) = -1 - v := wrap64 (by omega) (by omega)
      have e2 : (-1 - v).tdiv 16 = (-1 - v) / 16 := Int.tdiv_eq_ediv_of_nonneg (by omega)
      have e3 : IntKind.i64.wrap ((-1 - v) / 16) = (-1 - v) / 16 := wrap64 (by omega) (by omega)
      have := h.1 hc
      rw [notI_i32 hv'.1 hv'.2, fdiv16] at this
      rw [e1, e2, e3]
      exact encOk_eq n _ (by unfold InI32; omega) this

theorem enc7 {v : Int} (h : InI32 v) : EncOk 7 (IntKind.i64.wrap v) := by
  have h' := h
  unfold InI32 at h'
  rw [wrap64 (by omega) (by omega)]
  exact encOk_eq 7 v h (putOk7 h)

theorem refPut_eq {fn v : Int} (h1 : 0 ≤ fn) (hv : validS fn = true) (hi : InI32 v) : refPutS fn v = putF 7 fn v := by
  have h2 : fn ≤ 15 := by simp [validS] at hv; omega
  have hi' := hi
  unfold InI32 at hi'
  unfold refPutS
  rw [wrap64 (n := fn) (by omega) (by omega), wrap64 (n := v) (by omega) (by omega), enc_eq 7 fn v h1 h2 hi]

theorem puts_law {fn v : Int} (h1 : 0 ≤ fn) (hi : InI32 v) : rputS fn v = putS fn v ∧ rputE fn = putE fn ∧ refLenS fn v = (if validS fn = true then ((putF 7 fn v).length : Int) else 0) := by
  unfold rputS putS rputE putE refLenS
  rw [refValid_eq]
  by_cases hv : validS fn = true
  · simp only [hv, if_true, refPut_eq h1 hv hi, and_self]
  · simp only [hv]; simp

theorem pads_law {fn v : Int} (h1 : 0 ≤ fn) (hi : InI32 v) (n : Int) : rpadS fn v n = padS fn v n ∧ rpadE fn v n = padE fn v n := by
  obtain ⟨e1, e2, e3⟩ := puts_law h1 hi
  unfold rpadS padS rpadE padE
  rw [refValid_eq, e1, e3]
  by_cases hv : validS fn = true
  · simp only [hv, if_true, putS]; simp
  · have : validS fn = false := by simpa using hv
    simp [this]
theorem i64_fit {x : Int} (h : (Lit.int .i64 x).wf = true) : -9223372036854775808 ≤ x ∧ x ≤ 9223372036854775807 := by
  simp [Lit.wf, IntKind.min, IntKind.max, IntKind.signed, IntKind.bits] at h
  exact h
theorem u8_fit {x : Int} (h : (Lit.int .u8 x).wf = true) : 0 ≤ x ∧ x ≤ 255 := byte_fit (l := [x]) (fun n hn => by rw [List.mem_singleton.1 hn]; exact h) x (by simp)
theorem and_i64_range (n : Int) : -9223372036854775808 ≤ bits .and .i64 n 31 ∧ bits .and .i64 n 31 ≤ 9223372036854775807 := by
  have e : bits .and .i64 n 31 = IntKind.i64.wrap ((BitVec.ofInt 64 n &&& BitVec.ofInt 64 31).toNat : Int) := rfl
  rw [e, IntKind.wrap_i64]
  omega
end Go.Proofs
