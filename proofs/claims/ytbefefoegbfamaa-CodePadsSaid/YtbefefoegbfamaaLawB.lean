/- The plain law of CodeFront. No program in sight. -/
import Derived.Test.YtbefefoegbfamaaSpec

namespace Go.Proofs
open Go Go.Sx

theorem getL_cut : ∀ (l : List Int) (o : Int) (f x : Int) (k n : Nat), getL o k l = some (f, x, n) → k < n ∧ n ≤ k + l.length ∧ (∀ more, getL o k (l.take (n - k) ++ more) = some (f, x, n)) ∧ getL o k (l.take (n - 1 - k)) = none
  | [], _, _, _, _, _, h => by simp [getL] at h
  | b :: l, o, f, x, k, n, h => by
    simp only [getL] at h
    split at h
    · rename_i h2
      obtain ⟨g1, g2, g3, g4⟩ := getL_cut l _ f x (k + 1) n h
      refine ⟨by omega, by simp; omega, fun more => ?_, ?_⟩
      · rw [show n - k = (n - (k + 1)) + 1 by omega, List.take_succ_cons, List.cons_append]
        simp only [getL, h2, if_true]
        exact g3 more
      · rw [show n - 1 - k = (n - 1 - (k + 1)) + 1 by omega, List.take_succ_cons]
        simp only [getL, h2, if_true]
        exact g4
    · rename_i h2
      split at h
      · rename_i h3
        obtain ⟨g1, g2, g3, g4⟩ := getL_cut l _ f x (k + 1) n h
        refine ⟨by omega, by simp; omega, fun more => ?_, ?_⟩
        · rw [show n - k = (n - (k + 1)) + 1 by omega, List.take_succ_cons, List.cons_append]
          simp only [getL, h3, if_true, show ¬ ((6 : Int) = 2) by decide, if_false]
          exact g3 more
        · rw [show n - 1 - k = (n - 1 - (k + 1)) + 1 by omega, List.take_succ_cons]
          simp only [getL, h3, if_true, show ¬ ((6 : Int) = 2) by decide, if_false]
          exact g4
      · rename_i h3
        cases h
        refine ⟨by omega, by simp, fun more => ?_, ?_⟩
        · rw [show k + 1 - k = 0 + 1 by omega, List.take_succ_cons, List.cons_append]
          simp only [getL, h2, h3, if_false]
        · rw [show k + 1 - 1 - k = 0 by omega]; rfl

theorem front_law (l : List Int) (h : (getS l).2.2.2 = 0) : ∃ n : Nat, (getS l).2.2.1 = n ∧ 1 ≤ n ∧ n ≤ l.length ∧ (∀ more, getS (l.take n ++ more) = getS l) ∧ getS (l.take (n - 1)) = (0, 0, 0, 40) := by
  cases hg : getL 0 0 (l.take 16) with
  | none =>
    simp only [getS, hg] at h
    split at h <;> simp at h
  | some r =>
    obtain ⟨f, x, n⟩ := r
    obtain ⟨g1, g2, g3, g4⟩ := getL_cut _ _ _ _ _ _ hg
    simp only [Nat.zero_add, List.length_take, Nat.sub_zero] at g1 g2 g3 g4
    have hs : getS l = (f, x, (n : Int), 0) := by simp only [getS, hg]
    refine ⟨n, by rw [hs], by omega, by omega, fun more => ?_, ?_⟩
    · rw [hs]
      have e : (l.take n ++ more).take 16 = (l.take 16).take n ++ more.take (16 - n) := by
        rw [List.take_append, List.take_take, List.take_take]
        congr 1
        · rw [Nat.min_comm]
        · simp; congr 1; omega
      simp only [getS, e, g3]
    · have e : (l.take (n - 1)).take 16 = (l.take 16).take (n - 1) := by
        rw [List.take_take, List.take_take, Nat.min_comm]
      simp only [getS, e, g4]
      rw [if_pos (by simp; omega)]
end Go.Proofs
