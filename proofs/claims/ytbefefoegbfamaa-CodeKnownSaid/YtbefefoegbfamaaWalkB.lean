/- The plain law: the code's Get and the reference's say the same. No program in sight. -/
import Derived.Test.YtbefefoegbfamaaSpec

namespace Go.Proofs
open Go Go.Sx

theorem and15 (b : Int) : bits .and .u8 b 15 = b % 16 := by
  have e : bits .and .u8 b 15 = IntKind.u8.wrap ((BitVec.ofInt 8 b &&& BitVec.ofInt 8 15).toNat : Int) := rfl
  have e15 : (BitVec.ofInt 8 15).toNat = 2 ^ 4 - 1 := by decide
  rw [e, BitVec.toNat_and, BitVec.toNat_ofInt, e15, Nat.and_two_pow_sub_one_eq_mod, IntKind.wrap_u8]
  omega

theorem or_low {o c : Int} (h1 : -2147483648 ≤ o) (h2 : o ≤ 2147483647) (h16 : o % 16 = 0) (hc0 : 0 ≤ c) (hc1 : c < 16) : bits .or .i32 o c = o + c := by
  have e : bits .or .i32 o c = IntKind.i32.wrap ((BitVec.ofInt 32 o ||| BitVec.ofInt 32 c).toNat : Int) := rfl
  rw [e, BitVec.toNat_or, BitVec.toNat_ofInt, BitVec.toNat_ofInt]
  have e1 : (o % (2 ^ 32 : Nat)).toNat = 2 ^ 4 * ((o % (2 ^ 32 : Nat)).toNat / 16) := by omega
  have e2 : (c % (2 ^ 32 : Nat)).toNat = c.toNat := by omega
  rw [e2, e1, ← Nat.two_pow_add_eq_or_of_lt (by omega : c.toNat < 2 ^ 4), IntKind.wrap_i32]
  omega

theorem wrapS_eq {t : Int} (h1 : -9223372036854775808 ≤ t) (h2 : t ≤ 9223372036854775807) : wrapS t = IntKind.i32.wrap t := by
  have hm : t.tmod 4294967296 = if 0 ≤ t then t % 4294967296 else -((-t) % 4294967296) := by
    split
    · exact Int.tmod_eq_emod_of_nonneg (by assumption)
    · rename_i h
      have : t = -(-t) := by omega
      rw [this, Int.neg_tmod, Int.tmod_eq_emod_of_nonneg (by omega)]
      simp
  unfold wrapS
  rw [hm]
  simp only [IntKind.wrap_i64, IntKind.wrap_i32, ge_iff_le]
  repeat' split
  all_goals omega

/-- The two loops, from a state on: the operand is a multiple of 16 that fits. -/
theorem get_same : ∀ (l : List Int) (o : Int) (i : Nat), (∀ x ∈ l, 0 ≤ x ∧ x ≤ 255) → -2147483648 ≤ o → o ≤ 2147483647 → o % 16 = 0 → getL o i l = refL o i l
  | [], _, _, _, _, _, _ => rfl
  | b :: l, o, i, hb, h1, h2, h16 => by
    have hbb := hb b (by simp)
    have ih := fun o i => get_same l o i (fun x hx => hb x (by simp [hx]))
    have e1 : IntKind.i32.wrap (bits .and .u8 b 15) = b % 16 := by rw [and15, wrap32] <;> omega
    have e2 : bits .or .i32 o (b % 16) = o + b % 16 := or_low h1 h2 h16 (by omega) (by omega)
    have e3 : b.fdiv (2 ^ min 4 IntKind.u8.bits) = b / 16 := Int.fdiv_eq_ediv_of_nonneg _ (by decide)
    have e4 : IntKind.u8.wrap (b.tdiv 16) = b / 16 := by rw [Int.tdiv_eq_ediv_of_nonneg hbb.1, IntKind.wrap_u8]; omega
    have e5 : IntKind.i64.wrap (b.tmod 16) = b % 16 := by rw [Int.tmod_eq_emod_of_nonneg hbb.1, wrap64] <;> omega
    have hr1 : -2147483648 ≤ o + b % 16 := by omega
    have hr2 : o + b % 16 ≤ 2147483647 := by omega
    have e6 : IntKind.i64.wrap (o + b % 16) = o + b % 16 := wrap64 (by omega) (by omega)
    have e7 : ∀ x : Int, x * 2 ^ min 4 IntKind.i32.bits = 16 * x := fun x => by show x * 16 = _; omega
    have nx : ∀ x : Int, -2147483648 ≤ x → x ≤ 2147483647 → IntKind.i64.wrap (wrapS (IntKind.i64.wrap (16 * x))) = IntKind.i32.wrap (16 * x) := fun x g1 g2 => by
      rw [wrap64 (n := 16 * x) (by omega) (by omega), wrapS_eq (by omega) (by omega), wrap64]
      · rw [IntKind.wrap_i32]; omega
      · rw [IntKind.wrap_i32]; omega
    have rng : ∀ x : Int, -2147483648 ≤ IntKind.i32.wrap (16 * x) ∧ IntKind.i32.wrap (16 * x) ≤ 2147483647 ∧ IntKind.i32.wrap (16 * x) % 16 = 0 := fun x => by
      rw [IntKind.wrap_i32]; omega
    simp only [getL, refL, e1, e2, e3, e4, e5, e6, e7]
    by_cases f2 : b / 16 = 2
    · have g1 : (b / 16 != 2) = false := by simp [f2]
      have g2 : (b / 16 == 6) = false := by simp [f2]
      simp only [f2, if_true]
      rw [nx _ hr1 hr2]
      exact ih _ _ (rng _).1 (rng _).2.1 (rng _).2.2
    · have g1 : (b / 16 != 2) = true := by simp [f2]
      simp only [f2, if_false, g1, cond_true]
      by_cases f6 : b / 16 = 6
      · have g2 : (b / 16 != 6) = false := by simp [f6]
        have g3 : (b / 16 == 6) = true := by simp [f6]
        have e8 : IntKind.i64.wrap (-1 - (o + b % 16)) = -1 - (o + b % 16) := wrap64 (by omega) (by omega)
        simp only [f6, if_true, notI_i32 hr1 hr2, e8]
        rw [nx _ (by omega) (by omega)]
        simp
        exact ih _ _ (rng _).1 (rng _).2.1 (rng _).2.2
      · have g2 : (b / 16 != 6) = true := by simp [f6]
        simp only [f6, if_false, g2, cond_true]
        rw [wrap32 hr1 hr2]

theorem getS_law (l : List Int) (h : ∀ x ∈ l, 0 ≤ x ∧ x ≤ 255) : getS l = refGetS l := by
  unfold getS refGetS
  rw [get_same _ 0 0 (fun x hx => h x (List.mem_of_mem_take hx)) (by decide) (by decide) (by decide)]
end Go.Proofs

namespace Go.Proofs
open Go Go.Sx

theorem getL_cut : ∀ (l : List Int) (o : Int) (f x : Int) (k n : Nat), getL o k l = some (f, x, n) → k < n ∧ n ≤ k + l.length ∧ (∀ more, getL o k (l.take (n - k) ++ more) = some (f, x, n)) ∧ getL o k (l.take (n - 1 - k)) = none
  | [], _, _, _, _, _, h => by simp [getL] at h
  | b :: l, o, f, x, k, n, h => by
    simp only [getL] at h
    split at h
    · rename_i h2
      obtain ⟨g1, g2, g3, g4⟩ := getL_cut l _ f x (k + 1) n h
      refine ⟨by omega, by simp; omega, fun more => ?_, ?_⟩
      · rw [show n - k = (n - (k + 1)) + 1 by omega, List.take_succ_cons, List.cons_append]
        simp only [getL, h2, if_true]
        exact g3 more
      · rw [show n - 1 - k = (n - 1 - (k + 1)) + 1 by omega, List.take_succ_cons]
        simp only [getL, h2, if_true]
        exact g4
    · rename_i h2
      split at h
      · rename_i h3
        obtain ⟨g1, g2, g3, g4⟩ := getL_cut l _ f x (k + 1) n h
        refine ⟨by omega, by simp; omega, fun more => ?_, ?_⟩
        · rw [show n - k = (n - (k + 1)) + 1 by omega, List.take_succ_cons, List.cons_append]
          simp only [getL, h3, if_true, show ¬ ((6 : Int) = 2) by decide, if_false]
          exact g3 more
        · rw [show n - 1 - k = (n - 1 - (k + 1)) + 1 by omega, List.take_succ_cons]
          simp only [getL, h3, if_true, show ¬ ((6 : Int) = 2) by decide, if_false]
          exact g4
      · rename_i h3
        cases h
        refine ⟨by omega, by simp, fun more => ?_, ?_⟩
        · rw [show k + 1 - k = 0 + 1 by omega, List.take_succ_cons, List.cons_append]
          simp only [getL, h2, h3, if_false]
        · rw [show k + 1 - 1 - k = 0 by omega]; rfl

theorem front_law (l : List Int) (h : (getS l).2.2.2 = 0) : ∃ n : Nat, (getS l).2.2.1 = n ∧ 1 ≤ n ∧ n ≤ l.length ∧ (∀ more, getS (l.take n ++ more) = getS l) ∧ getS (l.take (n - 1)) = (0, 0, 0, 40) := by
  cases hg : getL 0 0 (l.take 16) with
  | none =>
    simp only [getS, hg] at h
    split at h <;> simp at h
  | some r =>
    obtain ⟨f, x, n⟩ := r
    obtain ⟨g1, g2, g3, g4⟩ := getL_cut _ _ _ _ _ _ hg
    simp only [Nat.zero_add, List.length_take, Nat.sub_zero] at g1 g2 g3 g4
    have hs : getS l = (f, x, (n : Int), 0) := by simp only [getS, hg]
    refine ⟨n, by rw [hs], by omega, by omega, fun more => ?_, ?_⟩
    · rw [hs]
      have e : (l.take n ++ more).take 16 = (l.take 16).take n ++ more.take (16 - n) := by
        rw [List.take_append, List.take_take, List.take_take]
        congr 1
        · rw [Nat.min_comm]
        · simp; congr 1; omega
      simp only [getS, e, g3]
    · have e : (l.take (n - 1)).take 16 = (l.take 16).take (n - 1) := by
        rw [List.take_take, List.take_take, Nat.min_comm]
      simp only [getS, e, g4]
      rw [if_pos (by simp; omega)]
end Go.Proofs

namespace Go.Proofs
open Go Go.Sx

theorem fdiv16 (x : Int) : x.fdiv (2 ^ min 4 IntKind.i32.bits) = x / 16 := Int.fdiv_eq_ediv_of_nonneg _ (by decide)

theorem and_i32 (v : Int) : bits .and .i32 v 15 = v % 16 := by
  have e : bits .and .i32 v 15 = IntKind.i32.wrap ((BitVec.ofInt 32 v &&& BitVec.ofInt 32 15).toNat : Int) := rfl
  have e15 : (BitVec.ofInt 32 15).toNat = 2 ^ 4 - 1 := by decide
  rw [e, BitVec.toNat_and, BitVec.toNat_ofInt, e15, Nat.and_two_pow_sub_one_eq_mod, IntKind.wrap_i32]
  omega

theorem lastB_eq {fn v : Int} (h1 : 0 ≤ fn) (h2 : fn ≤ 15) : lastB fn v = 16 * fn + v % 16 := by
  have e : lastB fn v = IntKind.u8.wrap ((BitVec.ofInt 8 (IntKind.u8.wrap (fn * 16)) ||| BitVec.ofInt 8 (IntKind.u8.wrap (bits .and .i32 v 15))).toNat : Int) := rfl
  rw [e, and_i32, BitVec.toNat_or, BitVec.toNat_ofInt, BitVec.toNat_ofInt]
  simp only [IntKind.wrap_u8]
  have e1 : (fn * 16 % 256 % ((2 ^ 8 : Nat) : Int)).toNat = 2 ^ 4 * fn.toNat := by omega
  have e2 : (v % 16 % 256 % ((2 ^ 8 : Nat) : Int)).toNat = (v % 16).toNat := by omega
  rw [e1, e2, ← Nat.two_pow_add_eq_or_of_lt (by omega)]
  omega

def InI32 (v : Int) : Prop := -2147483648 ≤ v ∧ v ≤ 2147483647

/-- Get goes on behind a byte that it has read. -/
def stepG (fn o1 : Int) (k : Nat) (rest : List Int) : Option (Int × Int × Nat) :=
  if fn = 2 then getL (IntKind.i32.wrap (16 * o1)) k rest
  else if fn = 6 then getL (IntKind.i32.wrap (16 * (-1 - o1))) k rest
  else some (fn, o1, k)

theorem getL_byte {o fn v : Int} {k : Nat} {rest : List Int} (h1 : 0 ≤ fn) (h2 : fn ≤ 15) (ho : InI32 o) (h16 : o % 16 = 0) (hv : v = o + v % 16) : getL o k (lastB fn v :: rest) = stepG fn v (k + 1) rest := by
  have hb1 : 0 ≤ lastB fn v := by rw [lastB_eq h1 h2]; omega
  have hb2 : lastB fn v ≤ 255 := by rw [lastB_eq h1 h2]; omega
  have e1 : IntKind.i32.wrap (bits .and .u8 (lastB fn v) 15) = v % 16 := by rw [and15, wrap32] <;> rw [lastB_eq h1 h2] <;> omega
  have e2 : bits .or .i32 o (v % 16) = v := by rw [or_low ho.1 ho.2 h16 (by omega) (by omega)]; omega
  have e3 : (lastB fn v).fdiv (2 ^ min 4 IntKind.u8.bits) = fn := by
    have : (lastB fn v).fdiv (2 ^ min 4 IntKind.u8.bits) = lastB fn v / 16 := Int.fdiv_eq_ediv_of_nonneg _ (by decide)
    rw [this, lastB_eq h1 h2]; omega
  have e4 : ∀ x : Int, x * 2 ^ min 4 IntKind.i32.bits = 16 * x := fun x => by show x * 16 = _; omega
  have hvr : InI32 v := by unfold InI32 at *; omega
  simp only [getL, stepG, e1, e2, e3, e4, notI_i32 hvr.1 hvr.2]

theorem get_put : ∀ (n : Nat) (fn v : Int) (k : Nat) (rest : List Int), 0 ≤ fn → fn ≤ 15 → InI32 v → PutOk n v → getL 0 k (putF n fn v ++ rest) = stepG fn v (k + (putF n fn v).length) rest := by
  have base : ∀ (fn v : Int) (k : Nat) (rest : List Int), 0 ≤ fn → fn ≤ 15 → 0 ≤ v → v ≤ 15 → getL 0 k ([lastB fn v] ++ rest) = stepG fn v (k + [lastB fn v].length) rest :=
    fun fn v k rest h1 h2 h3 h4 => getL_byte h1 h2 ⟨by decide, by decide⟩ (by decide) (by omega)
  intro n
  induction n with
  | zero => exact fun fn v k rest h1 h2 h3 h4 => base fn v k rest h1 h2 h4.1 h4.2
  | succ n ih =>
    intro fn v k rest h1 h2 h3 h4
    unfold InI32 at h3
    simp only [putF]
    split
    · rename_i hv
      have hok := h4.1 hv
      rw [notI_i32 h3.1 h3.2, fdiv16] at hok ⊢
      have hr : InI32 ((-1 - v) / 16) := by unfold InI32; omega
      rw [List.append_assoc, ih 6 _ k _ (by decide) (by decide) hr hok]
      simp only [stepG, show ¬ ((6 : Int) = 2) by decide, if_false, if_true, List.length_append, List.length_cons, List.length_nil]
      rw [List.cons_append, List.nil_append, getL_byte h1 h2 (by unfold InI32; rw [IntKind.wrap_i32]; omega) (by rw [IntKind.wrap_i32]; omega) (by rw [IntKind.wrap_i32]; omega)]
      simp only [stepG, Nat.add_assoc, Nat.zero_add]
    · rename_i hv
      split
      · rename_i hv2
        have hok := h4.2 hv2
        rw [fdiv16] at hok ⊢
        have hr : InI32 (v / 16) := by unfold InI32; omega
        rw [List.append_assoc, ih 2 _ k _ (by decide) (by decide) hr hok]
        simp only [stepG, if_true, List.length_append, List.length_cons, List.length_nil]
        rw [List.cons_append, List.nil_append, getL_byte h1 h2 (by unfold InI32; rw [IntKind.wrap_i32]; omega) (by rw [IntKind.wrap_i32]; omega) (by rw [IntKind.wrap_i32]; omega)]
        simp only [stepG, Nat.add_assoc, Nat.zero_add]
      · exact base fn v k rest h1 h2 (by omega) (by omega)

/-- v can be said in k bytes. -/
def Fits (k : Nat) (v : Int) : Prop := (0 ≤ v ∧ v < 16 ^ k ∧ 1 ≤ k) ∨ (v < 0 ∧ 2 ≤ k ∧ -1 - v < 16 ^ k)

theorem put_fits : ∀ (n k : Nat) (fn v : Int), InI32 v → Fits k v → (putF n fn v).length ≤ k
  | 0, k, fn, v, _, h => by
    simp only [putF, List.length_cons, List.length_nil]
    rcases h with ⟨_, _, h⟩ | ⟨_, h, _⟩ <;> omega
  | n + 1, k, fn, v, hr, h => by
    unfold InI32 at hr
    simp only [putF]
    have hk : ∀ j : Nat, (16 : Int) ^ (j + 1) = 16 * 16 ^ j := fun j => by rw [Int.pow_succ, Int.mul_comm]
    split
    · rename_i hv
      rw [notI_i32 hr.1 hr.2, fdiv16]
      rcases h with ⟨h1, _⟩ | ⟨h1, h2, h3⟩
      · omega
      · obtain ⟨j, rfl⟩ : ∃ j, k = j + 1 := ⟨k - 1, by omega⟩
        rw [hk] at h3
        have := put_fits n j 6 ((-1 - v) / 16) (by unfold InI32; omega) (.inl ⟨by omega, by omega, by omega⟩)
        simp; omega
    · rename_i hv
      split
      · rename_i hv2
        rw [fdiv16]
        rcases h with ⟨h1, h2, h3⟩ | ⟨h1, _⟩
        · obtain ⟨j, rfl⟩ : ∃ j, k = j + 1 := ⟨k - 1, by omega⟩
          have hj : 1 ≤ j := by
            rcases Nat.eq_zero_or_pos j with rfl | h
            · simp at h2; omega
            · exact h
          rw [hk] at h2
          have := put_fits n j 2 (v / 16) (by unfold InI32; omega) (.inl ⟨by omega, by omega, hj⟩)
          simp; omega
        · omega
      · simp only [List.length_cons, List.length_nil]
        rcases h with ⟨_, _, h⟩ | ⟨_, h, _⟩ <;> omega

theorem fits_i32 {k : Nat} (hk : 8 ≤ k) {v : Int} (h : InI32 v) : Fits k v := by
  have : (16 : Int) ^ 8 ≤ 16 ^ k := by
    have h1 : 16 ^ 8 ≤ 16 ^ k := Nat.pow_le_pow_right (by decide) hk
    exact_mod_cast h1
  unfold InI32 at h
  rcases Int.lt_or_le v 0 with hv | hv
  · exact .inr ⟨hv, by omega, by omega⟩
  · exact .inl ⟨hv, by omega, by omega⟩

theorem fits_next {i : Nat} {o1 w c : Int} (h : Fits (i + 1) o1) (hw : w = IntKind.i32.wrap (16 * o1) ∨ w = IntKind.i32.wrap (16 * (-1 - o1))) (hc0 : 0 ≤ c) (hc1 : c < 16) : Fits (i + 2) (w + c) := by
  have hr : InI32 (w + c) := by unfold InI32; rcases hw with rfl | rfl <;> rw [IntKind.wrap_i32] <;> omega
  rcases Nat.lt_or_ge i 6 with hi | hi
  · have hp : (16 : Int) ^ (i + 2) = 16 * 16 ^ (i + 1) := by rw [Int.pow_succ, Int.mul_comm]
    have hs : (16 : Int) ^ (i + 1) ≤ 16 ^ 6 := by
      have h1 : 16 ^ (i + 1) ≤ 16 ^ 6 := Nat.pow_le_pow_right (by decide) (by omega)
      exact_mod_cast h1
    unfold Fits at h ⊢
    rw [hp]
    rcases hw with rfl | rfl
    · rw [wrap32 (by omega) (by omega)]; omega
    · rw [wrap32 (by omega) (by omega)]; omega
  · exact fits_i32 (by omega) hr

/-- What is got fits into the bytes that were read; and is an instruction. -/
theorem getL_fits : ∀ (l : List Int) (o : Int) (k : Nat) (f x : Int) (n : Nat), (∀ y ∈ l, 0 ≤ y ∧ y ≤ 255) → InI32 o → o % 16 = 0 → (∀ c : Int, 0 ≤ c → c < 16 → Fits (k + 1) (o + c)) → getL o k l = some (f, x, n) →
    Fits n x ∧ InI32 x ∧ 0 ≤ f ∧ f ≤ 15 ∧ f ≠ 2 ∧ f ≠ 6
  | [], _, _, _, _, _, _, _, _, _, h => by simp [getL] at h
  | b :: l, o, k, f, x, n, hb, ho, h16, hf, h => by
    have hbb := hb b (by simp)
    have ho' := ho
    unfold InI32 at ho'
    have e1 : IntKind.i32.wrap (bits .and .u8 b 15) = b % 16 := by rw [and15, wrap32] <;> omega
    have e2 : bits .or .i32 o (b % 16) = o + b % 16 := or_low ho.1 ho.2 h16 (by omega) (by omega)
    have e3 : b.fdiv (2 ^ min 4 IntKind.u8.bits) = b / 16 := Int.fdiv_eq_ediv_of_nonneg _ (by decide)
    have e7 : ∀ x : Int, x * 2 ^ min 4 IntKind.i32.bits = 16 * x := fun x => by show x * 16 = _; omega
    have hr : InI32 (o + b % 16) := by unfold InI32; omega
    have hfo := hf (b % 16) (by omega) (by omega)
    have rng : ∀ x : Int, InI32 (IntKind.i32.wrap (16 * x)) ∧ IntKind.i32.wrap (16 * x) % 16 = 0 := fun x => by unfold InI32; rw [IntKind.wrap_i32]; omega
    simp only [getL, e1, e2, e3, e7, notI_i32 hr.1 hr.2] at h
    split at h
    · exact getL_fits l _ (k + 1) f x n (fun y hy => hb y (by simp [hy])) (rng _).1 (rng _).2 (fun c h1 h2 => fits_next hfo (.inl rfl) h1 h2) h
    · split at h
      · exact getL_fits l _ (k + 1) f x n (fun y hy => hb y (by simp [hy])) (rng _).1 (rng _).2 (fun c h1 h2 => fits_next hfo (.inr rfl) h1 h2) h
      · cases h
        exact ⟨hfo, hr, by omega, by omega, by assumption, by assumption⟩

theorem validS_of {f : Int} (h2 : f ≤ 15) (h3 : f ≠ 2) (h4 : f ≠ 6) : validS f = true := by simp [validS, h2, h3, h4]

theorem putOk7 {v : Int} (h : InI32 v) : PutOk 7 v := by
  unfold InI32 at h
  exact putOk_mono 7 v (by omega) (by omega) (by omega) (by omega) h.1 h.2

theorem putF_pos (n : Nat) (fn v : Int) : 1 ≤ (putF n fn v).length := by
  cases n <;> simp only [putF] <;> (repeat' split) <;> simp

/-- The law of CodeShortest. -/
theorem shortest_law (l : List Int) (hb : ∀ y ∈ l, 0 ≤ y ∧ y ≤ 255) (h : (getS l).2.2.2 = 0) : ∃ (f o : Int) (n : Nat), getS l = (f, o, (n : Int), 0) ∧ validS f = true ∧ PutOk 7 o ∧ 1 ≤ (putF 7 f o).length ∧ (putF 7 f o).length ≤ 8 ∧ (putF 7 f o).length ≤ n ∧
    getS (putF 7 f o) = (f, o, ((putF 7 f o).length : Int), 0) := by
  cases hg : getL 0 0 (l.take 16) with
  | none =>
    simp only [getS, hg] at h
    split at h <;> simp at h
  | some r =>
    obtain ⟨f, o, n⟩ := r
    obtain ⟨h1, h2, h3, h4, h5, h6⟩ := getL_fits _ 0 0 f o n (fun y hy => hb y (List.mem_of_mem_take hy)) ⟨by decide, by decide⟩ (by decide) (fun c h1 h2 => .inl ⟨by omega, by omega, by omega⟩) hg
    have hl8 := put_fits 7 8 f o h2 (fits_i32 (Nat.le_refl _) h2)
    refine ⟨f, o, n, by simp only [getS, hg], validS_of h4 h5 h6, putOk7 h2, putF_pos _ _ _, hl8, put_fits 7 n f o h2 h1, ?_⟩
    have hgp := get_put 7 f o 0 [] h3 h4 h2 (putOk7 h2)
    simp only [List.append_nil, stepG, h5, h6, if_false, Nat.zero_add] at hgp
    simp only [getS, List.take_of_length_le (show (putF 7 f o).length ≤ 16 by omega), hgp]

theorem getS_err (l : List Int) (h : ¬ (getS l).2.2.2 = 0) : (getS l).1 = 0 ∧ (getS l).2.1 = 0 ∧ (getS l).2.2.1 = 0 := by
  cases hg : getL 0 0 (l.take 16) with
  | none => simp only [getS, hg]; split <;> exact ⟨rfl, rfl, rfl⟩
  | some r => exact absurd (by simp [getS, hg]) h
theorem byte_fit {l : List Int} (h : ∀ n ∈ l, (Lit.int .u8 n).wf = true) : ∀ x ∈ l, 0 ≤ x ∧ x ≤ 255 := by
  intro x hx
  have := h x hx
  simp [Lit.wf, IntKind.min, IntKind.max, IntKind.signed, IntKind.bits] at this
  omega
theorem i32_fit {x : Int} (h : (Lit.int .i32 x).wf = true) : InI32 x := by
  simp [Lit.wf, IntKind.min, IntKind.max, IntKind.signed, IntKind.bits] at h
  exact h
end Go.Proofs

namespace Go.Proofs
open Go Go.Sx

theorem refValid_eq (fn : Int) : refValidS fn = validS fn := by
  unfold refValidS validS
  have : decide (fn < 16) = decide (fn ≤ 15) := by
    by_cases h : fn ≤ 15
    · simp [h]; omega
    · simp [h]; omega
  rw [this]

theorem encB_eq {fn v : Int} (h1 : 0 ≤ fn) (h2 : fn ≤ 15) (hv : InI32 v) : encB fn v = lastB fn v := by
  unfold InI32 at hv
  rw [lastB_eq h1 h2]
  unfold encB
  have hm : v.tmod 16 = if 0 ≤ v then v % 16 else -((-v) % 16) := by
    split
    · exact Int.tmod_eq_emod_of_nonneg (by assumption)
    · have : v = -(-v) := by omega
      rw [this, Int.neg_tmod, Int.tmod_eq_emod_of_nonneg (by omega)]
      simp
  have e1 : IntKind.i64.wrap (v.tmod 16 + 16) = v.tmod 16 + 16 := by rw [wrap64] <;> rw [hm] <;> split <;> omega
  have e2 : (v.tmod 16 + 16).tmod 16 = v % 16 := by
    rw [Int.tmod_eq_emod_of_nonneg (by rw [hm]; split <;> omega), hm]
    split <;> omega
  have e3 : IntKind.i64.wrap (16 * fn) = 16 * fn := wrap64 (by omega) (by omega)
  rw [e1, e2, e3, wrap64 (by omega) (by omega), IntKind.wrap_u8]
  omega

theorem enc_eq : ∀ (n : Nat) (fn v : Int), 0 ≤ fn → fn ≤ 15 → InI32 v → encF n fn v = putF n fn v
  | 0, fn, v, h1, h2, hv => by simp only [encF, putF, encB_eq h1 h2 hv]
  | n + 1, fn, v, h1, h2, hv => by
    have hv' := hv
    unfold InI32 at hv'
    simp only [encF, putF, encB_eq h1 h2 hv, ge_iff_le, gt_iff_lt]
    by_cases hc : v < 0
    · have e1 : IntKind.i64.wrap (-1 - v) = -1 - v := wrap64 (by omega) (by omega)
      have e2 : (-1 - v).tdiv 16 = (-1 - v) / 16 := Int.tdiv_eq_ediv_of_nonneg (by omega)
      have e3 : IntKind.i64.wrap ((-1 - v) / 16) = (-1 - v) / 16 := wrap64 (by omega) (by omega)
      rw [if_neg (by omega), if_pos hc, if_pos hc, e1, e2, e3, notI_i32 hv'.1 hv'.2, fdiv16, enc_eq n 6 _ (by decide) (by decide) (by unfold InI32; omega)]
    · rw [if_neg hc, if_neg hc]
      by_cases hd : 16 ≤ v
      · have e2 : v.tdiv 16 = v / 16 := Int.tdiv_eq_ediv_of_nonneg (by omega)
        have e3 : IntKind.i64.wrap (v / 16) = v / 16 := wrap64 (by omega) (by omega)
        rw [if_pos hd, if_pos (by omega), e2, e3, fdiv16, enc_eq n 2 _ (by decide) (by decide) (by unfold InI32; omega)]
      · rw [if_neg hd, if_neg (by omega)]

theorem encOk_eq : ∀ (n : Nat) (v : Int), InI32 v → PutOk n v → EncOk n v
  | 0, v, _, h => h
  | n + 1, v, hv, h => by
    have hv' := hv
    unfold InI32 at hv'
    refine ⟨fun hc => ?_, fun hc => ?_⟩
    · have e2 : v.tdiv 16 = v / 16 := Int.tdiv_eq_ediv_of_nonneg (by omega)
      have e3 : IntKind.i64.wrap (v / 16) = v / 16 := wrap64 (by omega) (by omega)
      have := h.2 (by omega)
      rw [fdiv16] at this
      rw [e2, e3]
      exact encOk_eq n _ (by unfold InI32; omega) this
    · have e1 : IntKind.i64.wrap (-1 - v) = -1 - v := wrap64 (by omega) (by omega)
      have e2 : (-1 - v).tdiv 16 = (-1 - v) / 16 := Int.tdiv_eq_ediv_of_nonneg (by omega)
      have e3 : IntKind.i64.wrap ((-1 - v) / 16) = (-1 - v) / 16 := wrap64 (by omega) (by omega)
      have := h.1 hc
      rw [notI_i32 hv'.1 hv'.2, fdiv16] at this
      rw [e1, e2, e3]
      exact encOk_eq n _ (by unfold InI32; omega) this

theorem enc7 {v : Int} (h : InI32 v) : EncOk 7 (IntKind.i64.wrap v) := by
  have h' := h
  unfold InI32 at h'
  rw [wrap64 (by omega) (by omega)]
  exact encOk_eq 7 v h (putOk7 h)

theorem refPut_eq {fn v : Int} (h1 : 0 ≤ fn) (hv : validS fn = true) (hi : InI32 v) : refPutS fn v = putF 7 fn v := by
  have h2 : fn ≤ 15 := by simp [validS] at hv; omega
  have hi' := hi
  unfold InI32 at hi'
  unfold refPutS
  rw [wrap64 (n := fn) (by omega) (by omega), wrap64 (n := v) (by omega) (by omega), enc_eq 7 fn v h1 h2 hi]

theorem puts_law {fn v : Int} (h1 : 0 ≤ fn) (hi : InI32 v) : rputS fn v = putS fn v ∧ rputE fn = putE fn ∧ refLenS fn v = (if validS fn = true then ((putF 7 fn v).length : Int) else 0) := by
  unfold rputS putS rputE putE refLenS
  rw [refValid_eq]
  by_cases hv : validS fn = true
  · simp only [hv, if_true, refPut_eq h1 hv hi, and_self]
  · simp only [hv]; simp

theorem pads_law {fn v : Int} (h1 : 0 ≤ fn) (hi : InI32 v) (n : Int) : rpadS fn v n = padS fn v n ∧ rpadE fn v n = padE fn v n := by
  obtain ⟨e1, e2, e3⟩ := puts_law h1 hi
  unfold rpadS padS rpadE padE
  rw [refValid_eq, e1, e3]
  by_cases hv : validS fn = true
  · simp only [hv, if_true, putS]; simp
  · have : validS fn = false := by simpa using hv
    simp [this]
theorem i64_fit {x : Int} (h : (Lit.int .i64 x).wf = true) : -9223372036854775808 ≤ x ∧ x ≤ 9223372036854775807 := by
  simp [Lit.wf, IntKind.min, IntKind.max, IntKind.signed, IntKind.bits] at h
  exact h
theorem u8_fit {x : Int} (h : (Lit.int .u8 x).wf = true) : 0 ≤ x ∧ x ≤ 255 := byte_fit (l := [x]) (fun n hn => by rw [List.mem_singleton.1 hn]; exact h) x (by simp)
theorem and_i64_range (n : Int) : -9223372036854775808 ≤ bits .and .i64 n 31 ∧ bits .and .i64 n 31 ≤ 9223372036854775807 := by
  have e : bits .and .i64 n 31 = IntKind.i64.wrap ((BitVec.ofInt 64 n &&& BitVec.ofInt 64 31).toNat : Int) := rfl
  rw [e, IntKind.wrap_i64]
  omega
end Go.Proofs

namespace Go.Proofs
open Go Go.Sx

theorem fix_law {fn : Int} (h1 : 0 ≤ fn) (_h2 : fn ≤ 255) : validS (fixS fn) = true ∧ 0 ≤ fixS fn ∧ fixS fn ≤ 15 ∧ fixS fn ≠ 2 ∧ fixS fn ≠ 6 := by
  have hm : fn.tmod 16 = fn % 16 := Int.tmod_eq_emod_of_nonneg h1
  have : 0 ≤ fixS fn ∧ fixS fn ≤ 15 ∧ fixS fn ≠ 2 ∧ fixS fn ≠ 6 := by
    unfold fixS
    rw [hm, IntKind.wrap_u8]
    split <;> omega
  exact ⟨validS_of this.2.1 this.2.2.1 this.2.2.2, this⟩

theorem getL_pad : ∀ (j k : Nat) (rest : List Int), getL 0 k (List.replicate j 32 ++ rest) = getL 0 (k + j) rest
  | 0, k, rest => rfl
  | j + 1, k, rest => by
    have e : (32 : Int) = lastB 2 0 := by decide
    rw [List.replicate_succ, List.cons_append]
    have := getL_byte (o := 0) (fn := 2) (v := 0) (k := k) (rest := List.replicate j 32 ++ rest) (by decide) (by decide) ⟨by decide, by decide⟩ (by decide) (by decide)
    rw [← e] at this
    rw [this]
    simp only [stepG, if_true, Int.mul_zero]
    rw [show IntKind.i32.wrap 0 = 0 by decide, getL_pad j (k + 1) rest]
    congr 1; omega

theorem pads_get {fn v : Int} (h1 : 0 ≤ fn) (h2 : fn ≤ 255) (hi : InI32 v) : 1 ≤ (putF 7 (fixS fn) v).length ∧ (putF 7 (fixS fn) v).length ≤ 8 ∧
    ∀ j : Nat, j + (putF 7 (fixS fn) v).length ≤ 16 → getS (List.replicate j 32 ++ putF 7 (fixS fn) v) = (fixS fn, v, ((j + (putF 7 (fixS fn) v).length : Nat) : Int), 0) := by
  obtain ⟨hv, f1, f2, f3, f4⟩ := fix_law h1 h2
  refine ⟨putF_pos _ _ _, put_fits 7 8 _ v hi (fits_i32 (Nat.le_refl _) hi), fun j hj => ?_⟩
  have hgp := get_put 7 (fixS fn) v j [] f1 f2 hi (putOk7 hi)
  simp only [List.append_nil, stepG, f3, f4, if_false] at hgp
  have hl : (List.replicate j 32 ++ putF 7 (fixS fn) v).take 16 = List.replicate j 32 ++ putF 7 (fixS fn) v := List.take_of_length_le (by simp; omega)
  simp only [getS, hl, getL_pad, Nat.zero_add, hgp]
end Go.Proofs
