/- The plain law: the code's Get and the reference's say the same. No program in sight. -/
import Derived.Test.YtbefefoegbfamaaSpec

namespace Go.Proofs
open Go Go.Sx

theorem and15 (b : Int) : bits .and .u8 b 15 = b % 16 := by
  have e : bits .and .u8 b 15 = IntKind.u8.wrap ((BitVec.ofInt 8 b &&& BitVec.ofInt 8 15).toNat : Int) := rfl
  have e15 : (BitVec.ofInt 8 15).toNat = 2 ^ 4 - 1 := by decide
  rw [e, BitVec.toNat_and, BitVec.toNat_ofInt, e15, Nat.and_two_pow_sub_one_eq_mod, IntKind.wrap_u8]
  omega

theorem or_low {o c : Int} (h1 : -2147483648 ≤ o) (h2 : o ≤ 2147483647) (h16 : o % 16 = 0) (hc0 : 0 ≤ c) (hc1 : c < 16) : bits .or .i32 o c = o + c := by
  have e : bits .or .i32 o c = IntKind.i32.wrap ((BitVec.ofInt 32 o ||| BitVec.ofInt 32 c).toNat : Int) := rfl
  rw [e, BitVec.toNat_or, BitVec.toNat_ofInt, BitVec.toNat_ofInt]
  have e1 : (o % (2 ^ 32 : Nat)).toNat = 2 ^ 4 * ((o % (2 ^ 32 : Nat)).toNat / 16) := by omega
  have e2 : (c % (2 ^ 32 : Nat)).toNat = c.toNat := by omega
  rw [e2, e1, ← Nat.two_pow_add_eq_or_of_lt (by omega : c.toNat < 2 ^ 4), IntKind.wrap_i32]
  omega

theorem wrapS_eq {t : Int} (h1 : -9223372036854775808 ≤ t) (h2 : t ≤ 9223372036854775807) : wrapS t = IntKind.i32.wrap t := by
  have hm : t.tmod 4294967296 = if 0 ≤ t then t % 4294967296 else -((-t) % 4294967296) := by
    split
    · exact Int.tmod_eq_emod_of_nonneg (by assumption)
    · rename_i h
      have : t = -(-t) := by omega
      rw [this, Int.neg_tmod, Int.tmod_eq_emod_of_nonneg (by omega)]
      simp
  unfold wrapS
  rw [hm]
  simp only [IntKind.wrap_i64, IntKind.wrap_i32, ge_iff_le]
  repeat' split
  all_goals omega

/-- The two loops, from a state on: the operand is a multiple of 16 that fits. -/
theorem get_same : ∀ (l : List Int) (o : Int) (i : Nat), (∀ x ∈ l, 0 ≤ x ∧ x ≤ 255) → -2147483648 ≤ o → o ≤ 2147483647 → o % 16 = 0 → getL o i l = refL o i l
  | [], _, _, _, _, _, _ => rfl
  | b :: l, o, i, hb, h1, h2, h16 => by
    have hbb := hb b (by simp)
    have ih := fun o i => get_same l o i (fun x hx => hb x (by simp [hx]))
    have e1 : IntKind.i32.wrap (bits .and .u8 b 15) = b % 16 := by rw [and15, wrap32] <;> omega
    have e2 : bits .or .i32 o (b % 16) = o + b % 16 := or_low h1 h2 h16 (by omega) (by omega)
    have e3 : b.fdiv (2 ^ min 4 IntKind.u8.bits) = b / 16 := Int.fdiv_eq_ediv_of_nonneg _ (by decide)
    have e4 : IntKind.u8.wrap (b.tdiv 16) = b / 16 := by rw [Int.tdiv_eq_ediv_of_nonneg hbb.1, IntKind.wrap_u8]; omega
    have e5 : IntKind.i64.wrap (b.tmod 16) = b % 16 := by rw [Int.tmod_eq_emod_of_nonneg hbb.1, wrap64] <;> omega
    have hr1 : -2147483648 ≤ o + b % 16 := by omega
    have hr2 : o + b % 16 ≤ 2147483647 := by omega
    have e6 : IntKind.i64.wrap (o + b % 16) = o + b % 16 := wrap64 (by omega) (by omega)
    have e7 : ∀ x : Int, x * 2 ^ min 4 IntKind.i32.bits = 16 * x := fun x => by show x * 16 = _; omega
    have nx : ∀ x : Int, -2147483648 ≤ x → x ≤ 2147483647 → IntKind.i64.wrap (wrapS (IntKind.i64.wrap (16 * x))) = IntKind.i32.wrap (16 * x) := fun x g1 g2 => by
      rw [wrap64 (n := 16 * x) (by omega) (by omega), wrapS_eq (by omega) (by omega), wrap64]
      · rw [IntKind.wrap_i32]; omega
      · rw [IntKind.wrap_i32]; omega
    have rng : ∀ x : Int, -2147483648 ≤ IntKind.i32.wrap (16 * x) ∧ IntKind.i32.wrap (16 * x) ≤ 2147483647 ∧ IntKind.i32.wrap (16 * x) % 16 = 0 := fun x => by
      rw [IntKind.wrap_i32]; omega
    simp only [getL, refL, e1, e2, e3, e4, e5, e6, e7]
    by_cases f2 : b / 16 = 2
    · have g1 : (b / 16 != 2) = false := by simp [f2]
      have g2 : (b / 16 == 6) = false := by simp [f2]
      simp only [f2, if_true]
      rw [nx _ hr1 hr2]
      exact ih _ _ (rng _).1 (rng _).2.1 (rng _).2.2
    · have g1 : (b / 16 != 2) = true := by simp [f2]
      simp only [f2, if_false, g1, cond_true]
      by_cases f6 : b / 16 = 6
      · have g2 : (b / 16 != 6) = false := by simp [f6]
        have g3 : (b / 16 == 6) = true := by simp [f6]
        have e8 : IntKind.i64.wrap (-1 - (o + b % 16)) = -1 - (o + b % 16) := wrap64 (by omega) (by omega)
        simp only [f6, if_true, notI_i32 hr1 hr2, e8]
        rw [nx _ (by omega) (by omega)]
        simp
        exact ih _ _ (rng _).1 (rng _).2.1 (rng _).2.2
      · have g2 : (b / 16 != 6) = true := by simp [f6]
        simp only [f6, if_false, g2, cond_true]
        rw [wrap32 hr1 hr2]

theorem getS_law (l : List Int) (h : ∀ x ∈ l, 0 ≤ x ∧ x ≤ 255) : getS l = refGetS l := by
  unfold getS refGetS
  rw [get_same _ 0 0 (fun x hx => h x (List.mem_of_mem_take hx)) (by decide) (by decide) (by decide)]
end Go.Proofs
