/- Encoding and decoding, in plain Lean: what is put is got; no shorter sequence of bytes yields the same. No program in sight. -/
import Derived.Test.YtbefefoegbfamaaLawA
import Derived.Test.YtbefefoegbfamaaLawB

namespace Go.Proofs
open Go Go.Sx

theorem fdiv16 (x : Int) : x.fdiv (2 ^ min 4 IntKind.i32.bits) = x / 16 := Int.fdiv_eq_ediv_of_nonneg _ (by decide)

theorem and_i32 (v : Int) : bits .and .i32 v 15 = v % 16 := by
  have e : bits .and .i32 v 15 = IntKind.i32.wrap ((BitVec.ofInt 32 v &&& BitVec.ofInt 32 15).toNat : Int) := rfl
  have e15 : (BitVec.ofInt 32 15).toNat = 2 ^ 4 - 1 := by decide
  rw [e, BitVec.toNat_and, BitVec.toNat_ofInt, e15, Nat.and_two_pow_sub_one_eq_mod, IntKind.wrap_i32]
  omega

theorem lastB_eq {fn v : Int} (h1 : 0 ≤ fn) (h2 : fn ≤ 15) : lastB fn v = 16 * fn + v % 16 := by
  have e : lastB fn v = IntKind.u8.wrap ((BitVec.ofInt 8 (IntKind.u8.wrap (fn * 16)) ||| BitVec.ofInt 8 (IntKind.u8.wrap (bits .and .i32 v 15))).toNat : Int) := rfl
  rw [e, and_i32, BitVec.toNat_or, BitVec.toNat_ofInt, BitVec.toNat_ofInt]
  simp only [IntKind.wrap_u8]
  have e1 : (fn * 16 % 256 % ((2 ^ 8 : Nat) : Int)).toNat = 2 ^ 4 * fn.toNat := by omega
  have e2 : (v % 16 % 256 % ((2 ^ 8 : Nat) : Int)).toNat = (v % 16).toNat := by omega
  rw [e1, e2, ← Nat.two_pow_add_eq_or_of_lt (by omega)]
  omega

def InI32 (v : Int) : Prop := -2147483648 ≤ v ∧ v ≤ 2147483647

/-- Get goes on behind a byte that it has read. -/
def stepG (fn o1 : Int) (k : Nat) (rest : List Int) : Option (Int × Int × Nat) :=
  if fn = 2 then getL (IntKind.i32.wrap (16 * o1)) k rest
  else if fn = 6 then getL (IntKind.i32.wrap (16 * (-1 - o1))) k rest
  else some (fn, o1, k)

theorem getL_byte {o fn v : Int} {k : Nat} {rest : List Int} (h1 : 0 ≤ fn) (h2 : fn ≤ 15) (ho : InI32 o) (h16 : o % 16 = 0) (hv : v = o + v % 16) : getL o k (lastB fn v :: rest) = stepG fn v (k + 1) rest := by
  have hb1 : 0 ≤ lastB fn v := by rw [lastB_eq h1 h2]; omega
  have hb2 : lastB fn v ≤ 255 := by rw [lastB_eq h1 h2]; omega
  have e1 : IntKind.i32.wrap (bits .and .u8 (lastB fn v) 15) = v % 16 := by rw [and15, wrap32] <;> rw [lastB_eq h1 h2] <;> omega
  have e2 : bits .or .i32 o (v % 16) = v := by rw [or_low ho.1 ho.2 h16 (by omega) (by omega)]; omega
  have e3 : (lastB fn v).fdiv (2 ^ min 4 IntKind.u8.bits) = fn := by
    have : (lastB fn v).fdiv (2 ^ min 4 IntKind.u8.bits) = lastB fn v / 16 := Int.fdiv_eq_ediv_of_nonneg _ (by decide)
    rw [this, lastB_eq h1 h2]; omega
  have e4 : ∀ x : Int, x * 2 ^ min 4 IntKind.i32.bits = 16 * x := fun x => by show x * 16 = _; omega
  have hvr : InI32 v := by unfold InI32 at *; omega
  simp only [getL, stepG, e1, e2, e3, e4, notI_i32 hvr.1 hvr.2]

theorem get_put : ∀ (n : Nat) (fn v : Int) (k : Nat) (rest : List Int), 0 ≤ fn → fn ≤ 15 → InI32 v → PutOk n v → getL 0 k (putF n fn v ++ rest) = stepG fn v (k + (putF n fn v).length) rest := by
  have base : ∀ (fn v : Int) (k : Nat) (rest : List Int), 0 ≤ fn → fn ≤ 15 → 0 ≤ v → v ≤ 15 → getL 0 k ([lastB fn v] ++ rest) = stepG fn v (k + [lastB fn v].length) rest :=
    fun fn v k rest h1 h2 h3 h4 => getL_byte h1 h2 ⟨by decide, by decide⟩ (by decide) (by omega)
  intro n
  induction n with
  | zero => exact fun fn v k rest h1 h2 h3 h4 => base fn v k rest h1 h2 h4.1 h4.2
  | succ n ih =>
    intro fn v k rest h1 h2 h3 h4
    unfold InI32 at h3
    simp only [putF]
    split
    · rename_i hv
      have hok := h4.1 hv
      rw [notI_i32 h3.1 h3.2, fdiv16] at hok ⊢
      have hr : InI32 ((-1 - v) / 16) := by unfold InI32; omega
      rw [List.append_assoc, ih 6 _ k _ (by decide) (by decide) hr hok]
      simp only [stepG, show ¬ ((6 : Int) = 2) by decide, if_false, if_true, List.length_append, List.length_cons, List.length_nil]
      rw [List.cons_append, List.nil_append, getL_byte h1 h2 (by unfold InI32; rw [IntKind.wrap_i32]; omega) (by rw [IntKind.wrap_i32]; omega) (by rw [IntKind.wrap_i32]; omega)]
      simp only [stepG, Nat.add_assoc, Nat.zero_add]
    · rename_i hv
      split
      · rename_i hv2
        have hok := h4.2 hv2
        rw [fdiv16] at hok ⊢
        have hr : InI32 (v / 16) := by unfold InI32; omega
        rw [List.append_assoc, ih 2 _ k _ (by decide) (by decide) hr hok]
        simp only [stepG, if_true, List.length_append, List.length_cons, List.length_nil]
        rw [List.cons_append, List.nil_append, getL_byte h1 h2 (by unfold InI32; rw [IntKind.wrap_i32]; omega) (by rw [IntKind.wrap_i32]; omega) (by rw [IntKind.wrap_i32]; omega)]
        simp only [stepG, Nat.add_assoc, Nat.zero_add]
      · exact base fn v k rest h1 h2 (by omega) (by omega)

/-- v can be said in k bytes. -/
def Fits (k : Nat) (v : Int) : Prop := (0 ≤ v ∧ v < 16 ^ k ∧ 1 ≤ k) ∨ (v < 0 ∧ 2 ≤ k ∧ -1 - v < 16 ^ k)

theorem put_fits : ∀ (n k : Nat) (fn v : Int), InI32 v → Fits k v → (putF n fn v).length ≤ k
  | 0, k, fn, v, _, h => by
    simp only [putF, List.length_cons, List.length_nil]
    rcases h with ⟨_, _, h⟩ | ⟨_, h, _⟩ <;> omega
  | n + 1, k, fn, v, hr, h => by
    unfold InI32 at hr
    simp only [putF]
    have hk : ∀ j : Nat, (16 : Int) ^ (j + 1) = 16 * 16 ^ j := fun j => by rw [Int.pow_succ, Int.mul_comm]
    split
    · rename_i hv
      rw [notI_i32 hr.1 hr.2, fdiv16]
      rcases h with ⟨h1, _⟩ | ⟨h1, h2, h3⟩
      · omega
      · obtain ⟨j, rfl⟩ : ∃ j, k = j + 1 := ⟨k - 1, by omega⟩
        rw [hk] at h3
        have := put_fits n j 6 ((-1 - v) / 16) (by unfold InI32; omega) (.inl ⟨by omega, by omega, by omega⟩)
        simp; omega
    · rename_i hv
      split
      · rename_i hv2
        rw [fdiv16]
        rcases h with ⟨h1, h2, h3⟩ | ⟨h1, _⟩
        · obtain ⟨j, rfl⟩ : ∃ j, k = j + 1 := ⟨k - 1, by omega⟩
          have hj : 1 ≤ j := by
            rcases Nat.eq_zero_or_pos j with rfl | h
            · simp at h2; omega
            · exact h
          rw [hk] at h2
          have := put_fits n j 2 (v / 16) (by unfold InI32; omega) (.inl ⟨by omega, by omega, hj⟩)
          simp; omega
        · omega
      · simp only [List.length_cons, List.length_nil]
        rcases h with ⟨_, _, h⟩ | ⟨_, h, _⟩ <;> omega

theorem fits_i32 {k : Nat} (hk : 8 ≤ k) {v : Int} (h : InI32 v) : Fits k v := by
  have : (16 : Int) ^ 8 ≤ 16 ^ k := by
    have h1 : 16 ^ 8 ≤ 16 ^ k := Nat.pow_le_pow_right (by decide) hk
    exact_mod_cast h1
  unfold InI32 at h
  rcases Int.lt_or_le v 0 with hv | hv
  · exact .inr ⟨hv, by omega, by omega⟩
  · exact .inl ⟨hv, by omega, by omega⟩

theorem fits_next {i : Nat} {o1 w c : Int} (h : Fits (i + 1) o1) (hw : w = IntKind.i32.wrap (16 * o1) ∨ w = IntKind.i32.wrap (16 * (-1 - o1))) (hc0 : 0 ≤ c) (hc1 : c < 16) : Fits (i + 2) (w + c) := by
  have hr : InI32 (w + c) := by unfold InI32; rcases hw with rfl | rfl <;> rw [IntKind.wrap_i32] <;> omega
  rcases Nat.lt_or_ge i 6 with hi | hi
  · have hp : (16 : Int) ^ (i + 2) = 16 * 16 ^ (i + 1) := by rw [Int.pow_succ, Int.mul_comm]
    have hs : (16 : Int) ^ (i + 1) ≤ 16 ^ 6 := by
      have h1 : 16 ^ (i + 1) ≤ 16 ^ 6 := Nat.pow_le_pow_right (by decide) (by omega)
      exact_mod_cast h1
    unfold Fits at h ⊢
    rw [hp]
    rcases hw with rfl | rfl
    · rw [wrap32 (by omega) (by omega)]; omega
    · rw [wrap32 (by omega) (by omega)]; omega
  · exact fits_i32 (by omega) hr

/-- What is got fits into the bytes that were read; and is an instruction. -/
theorem getL_fits : ∀ (l : List Int) (o : Int) (k : Nat) (f x : Int) (n : Nat), (∀ y ∈ l, 0 ≤ y ∧ y ≤ 255) → InI32 o → o % 16 = 0 → (∀ c : Int, 0 ≤ c → c < 16 → Fits (k + 1) (o + c)) → getL o k l = some (f, x, n) →
    Fits n x ∧ InI32 x ∧ 0 ≤ f ∧ f ≤ 15 ∧ f ≠ 2 ∧ f ≠ 6
  | [], _, _, _, _, _, _, _, _, _, h => by simp [getL] at h
  | b :: l, o, k, f, x, n, hb, ho, h16, hf, h => by
    have hbb := hb b (by simp)
    have ho' := ho
    unfold InI32 at ho'
    have e1 : IntKind.i32.wrap (bits .and .u8 b 15) = b % 16 := by rw [and15, wrap32] <;> omega
    have e2 : bits .or .i32 o (b % 16) = o + b % 16 := or_low ho.1 ho.2 h16 (by omega) (by omega)
    have e3 : b.fdiv (2 ^ min 4 IntKind.u8.bits) = b / 16 := Int.fdiv_eq_ediv_of_nonneg _ (by decide)
    have e7 : ∀ x : Int, x * 2 ^ min 4 IntKind.i32.bits = 16 * x := fun x => by show x * 16 = _; omega
    have hr : InI32 (o + b % 16) := by unfold InI32; omega
    have hfo := hf (b % 16) (by omega) (by omega)
    have rng : ∀ x : Int, InI32 (IntKind.i32.wrap (16 * x)) ∧ IntKind.i32.wrap (16 * x) % 16 = 0 := fun x => by unfold InI32; rw [IntKind.wrap_i32]; omega
    simp only [getL, e1, e2, e3, e7, notI_i32 hr.1 hr.2] at h
    split at h
    · exact getL_fits l _ (k + 1) f x n (fun y hy => hb y (by simp [hy])) (rng _).1 (rng _).2 (fun c h1 h2 => fits_next hfo (.inl rfl) h1 h2) h
    · split at h
      · exact getL_fits l _ (k + 1) f x n (fun y hy => hb y (by simp [hy])) (rng _).1 (rng _).2 (fun c h1 h2 => fits_next hfo (.inr rfl) h1 h2) h
      · cases h
        exact ⟨hfo, hr, by omega, by omega, by assumption, by assumption⟩

theorem validS_of {f : Int} (h2 : f ≤ 15) (h3 : f ≠ 2) (h4 : f ≠ 6) : validS f = true := by simp [validS, h2, h3, h4]

theorem putOk7 {v : Int} (h : InI32 v) : PutOk 7 v := by
  unfold InI32 at h
  exact putOk_mono 7 v (by omega) (by omega) (by omega) (by omega) h.1 h.2

theorem putF_pos (n : Nat) (fn v : Int) : 1 ≤ (putF n fn v).length := by
  cases n <;> simp only [putF] <;> (repeat' split) <;> simp

/-- The law of CodeShortest. -/
theorem shortest_law (l : List Int) (hb : ∀ y ∈ l, 0 ≤ y ∧ y ≤ 255) (h : (getS l).2.2.2 = 0) : ∃ (f o : Int) (n : Nat), getS l = (f, o, (n : Int), 0) ∧ validS f = true ∧ PutOk 7 o ∧ 1 ≤ (putF 7 f o).length ∧ (putF 7 f o).length ≤ 8 ∧ (putF 7 f o).length ≤ n ∧
    getS (putF 7 f o) = (f, o, ((putF 7 f o).length : Int), 0) := by
  cases hg : getL 0 0 (l.take 16) with
  | none =>
    simp only [getS, hg] at h
    split at h <;> simp at h
  | some r =>
    obtain ⟨f, o, n⟩ := r
    obtain ⟨h1, h2, h3, h4, h5, h6⟩ := getL_fits _ 0 0 f o n (fun y hy => hb y (List.mem_of_mem_take hy)) ⟨by decide, by decide⟩ (by decide) (fun c h1 h2 => .inl ⟨by omega, by omega, by omega⟩) hg
    have hl8 := put_fits 7 8 f o h2 (fits_i32 (Nat.le_refl _) h2)
    refine ⟨f, o, n, by simp only [getS, hg], validS_of h4 h5 h6, putOk7 h2, putF_pos _ _ _, hl8, put_fits 7 n f o h2 h1, ?_⟩
    have hgp := get_put 7 f o 0 [] h3 h4 h2 (putOk7 h2)
    simp only [List.append_nil, stepG, h5, h6, if_false, Nat.zero_add] at hgp
    simp only [getS, List.take_of_length_le (show (putF 7 f o).length ≤ 16 by omega), hgp]

theorem getS_err (l : List Int) (h : ¬ (getS l).2.2.2 = 0) : (getS l).1 = 0 ∧ (getS l).2.1 = 0 ∧ (getS l).2.2.1 = 0 := by
  cases hg : getL 0 0 (l.take 16) with
  | none => simp only [getS, hg]; split <;> exact ⟨rfl, rfl, rfl⟩
  | some r => exact absurd (by simp [getS, hg]) h
theorem byte_fit {l : List Int} (h : ∀ n ∈ l, (Lit.int .u8 n).wf = true) : ∀ x ∈ l, 0 ≤ x ∧ x ≤ 255 := by
  intro x hx
  have := h x hx
  simp [Lit.wf, IntKind.min, IntKind.max, IntKind.signed, IntKind.bits] at this
  omega
theorem i32_fit {x : Int} (h : (Lit.int .i32 x).wf = true) : InI32 x := by
  simp [Lit.wf, IntKind.min, IntKind.max, IntKind.signed, IntKind.bits] at h
  exact h
end Go.Proofs
