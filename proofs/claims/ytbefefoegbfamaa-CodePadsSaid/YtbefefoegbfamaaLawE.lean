/- The plain law of CodePads. No program in sight. -/
import Derived.Test.YtbefefoegbfamaaLawD
import Derived.Test.YtbefefoegbfamaaSpec

namespace Go.Proofs
open Go Go.Sx

theorem fix_law {fn : Int} (h1 : 0 ≤ fn) (h2 : fn ≤ 255) : validS (fixS fn) = true ∧ 0 ≤ fixS fn ∧ fixS fn ≤ 15 ∧ fixS fn ≠ 2 ∧ fixS fn ≠ 6 := by
  have hm : fn.tmod 16 = fn % 16 := Int.tmod_eq_emod_of_nonneg h1
  have : 0 ≤ fixS fn ∧ fixS fn ≤ 15 ∧ fixS fn ≠ 2 ∧ fixS fn ≠ 6 := by
    unfold fixS
    rw [hm, IntKind.wrap_u8]
    split <;> omega
  exact ⟨validS_of this.2.1 this.2.2.1 this.2.2.2, this⟩

theorem getL_pad : ∀ (j k : Nat) (rest : List Int), getL 0 k (List.replicate j 32 ++ rest) = getL 0 (k + j) rest
  | 0, k, rest => rfl
  | j + 1, k, rest => by
    have e : (32 : Int) = lastB 2 0 := by decide
    rw [List.replicate_succ, List.cons_append]
    have := getL_byte (o := 0) (fn := 2) (v := 0) (k := k) (rest := List.replicate j 32 ++ rest) (by decide) (by decide) ⟨by decide, by decide⟩ (by decide) (by decide)
    rw [← e] at this
    rw [this]
    simp only [stepG, if_true, Int.mul_zero]
    rw [show IntKind.i32.wrap 0 = 0 by decide, getL_pad j (k + 1) rest]
    congr 1; omega

theorem pads_get {fn v : Int} (h1 : 0 ≤ fn) (h2 : fn ≤ 255) (hi : InI32 v) : 1 ≤ (putF 7 (fixS fn) v).length ∧ (putF 7 (fixS fn) v).length ≤ 8 ∧
    ∀ j : Nat, j + (putF 7 (fixS fn) v).length ≤ 16 → getS (List.replicate j 32 ++ putF 7 (fixS fn) v) = (fixS fn, v, ((j + (putF 7 (fixS fn) v).length : Nat) : Int), 0) := by
  obtain ⟨hv, f1, f2, f3, f4⟩ := fix_law h1 h2
  refine ⟨putF_pos _ _ _, put_fits 7 8 _ v hi (fits_i32 (Nat.le_refl _) hi), fun j hj => ?_⟩
  have hgp := get_put 7 (fixS fn) v j [] f1 f2 hi (putOk7 hi)
  simp only [List.append_nil, stepG, f3, f4, if_false] at hgp
  have hl : (List.replicate j 32 ++ putF 7 (fixS fn) v).take 16 = List.replicate j 32 ++ putF 7 (fixS fn) v := List.take_of_length_le (by simp; omega)
  simp only [getS, hl, getL_pad, Nat.zero_add, hgp]
end Go.Proofs
