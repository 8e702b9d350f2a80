/- Double words: what the functions of layer 2 compute, in plain Lean. No program in sight. -/
import Derived.Test.YtbdcobclpfcdhaaSxC

namespace Go.Proofs
open Go Go.Sx

def I32 (a : Int) : Prop := -2147483648 ≤ a ∧ a ≤ 2147483647
/-- A word's unsigned value; the word of a number. -/
def Uw (a : Int) : Int := a % 4294967296
def Wd (n : Int) : Int := (n + 2147483648) % 4294967296 - 2147483648
theorem Wd_i32 (n : Int) : I32 (Wd n) := by unfold I32 Wd; omega
theorem Uw_Wd (n : Int) : Uw (Wd n) = n % 4294967296 := by unfold Uw Wd; omega
theorem Wd_of {n : Int} (h : I32 n) : Wd n = n := by unfold I32 at h; unfold Wd; omega
theorem Wd_Uw (n : Int) : Wd (Uw n) = Wd n := by unfold Uw Wd; omega
theorem wrapW (n : Int) : IntKind.i32.wrap n = Wd n := IntKind.wrap_i32 n
theorem Uw_lo (a : Int) : 0 ≤ Uw a := by unfold Uw; omega
theorem Uw_hi (a : Int) : Uw a < 4294967296 := by unfold Uw; omega
/-- A double word's value. -/
def Dv (hi lo : Int) : Int := Uw hi * 4294967296 + Uw lo
theorem Dv_lo (a b : Int) : 0 ≤ Dv a b := by unfold Dv Uw; omega
theorem Dv_hi (a b : Int) : Dv a b < 18446744073709551616 := by unfold Dv Uw; omega
theorem Dv_split (z : Int) (h0 : 0 ≤ z) (h1 : z < 18446744073709551616) : Dv (Wd (z / 4294967296)) (Wd z) = z := by unfold Dv Uw Wd; omega

def lgAdd (a b c : Int) : Int := Wd (a + b + c % 2)
def lgAddO (a b c : Int) : Bool := a + b + c % 2 != Wd (a + b + c % 2)
def lgSub (a b c : Int) : Int := Wd (a - b - c % 2)
def lgSubO (a b c : Int) : Bool := a - b - c % 2 != Wd (a - b - c % 2)
def lgSum (a b c : Int) : Int := Wd (a + b + c % 2)
def lgSumC (a b c : Int) : Int := (Uw a + Uw b + c % 2) / 4294967296
def lgDiff (a b c : Int) : Int := Wd (a - b - c % 2)
def lgDiffC (a b c : Int) : Int := -((Uw a - Uw b - c % 2) / 4294967296)
def lgMul (a b c : Int) : Int := Wd (Uw a * Uw b + Uw c)
def lgMulH (a b c : Int) : Int := Wd ((Uw a * Uw b + Uw c) / 4294967296)
def lgDivO (hi d : Int) : Bool := decide (Uw hi ≥ Uw d)
def lgDiv (hi lo d : Int) : Int := Wd (Dv hi lo / Uw d)
def lgRem (hi lo d : Int) : Int := Wd (Dv hi lo % Uw d)
/-- Shifts of a double word's value. -/
def shlV (z n : Int) : Int := z * 2 ^ (Uw n).toNat % 18446744073709551616
def shrV (z n : Int) : Int := z / 2 ^ (Uw n).toNat
def lgShlH (hi lo n : Int) : Int := Wd (shlV (Dv hi lo) n / 4294967296)
def lgShl (hi lo n : Int) : Int := Wd (shlV (Dv hi lo) n)
def lgShrH (hi lo n : Int) : Int := Wd (shrV (Dv hi lo) n / 4294967296)
def lgShr (hi lo n : Int) : Int := Wd (shrV (Dv hi lo) n)
/-- How many zero bits stand ahead. -/
def lzN (z : Int) : Int := if z = 0 then 64 else 63 - (Nat.log2 z.toNat : Int)
def lgNormH (hi lo : Int) : Int := if Dv hi lo = 0 then 0 else lgShlH hi lo (lzN (Dv hi lo))
def lgNorm (hi lo : Int) : Int := if Dv hi lo = 0 then 0 else lgShl hi lo (lzN (Dv hi lo))
def lgSign (v : Int) : Int := if v < 0 then -1 else 0

theorem and1_i32 (v : Int) : bits .and .i32 v 1 = v % 2 := by
  have e : bits .and .i32 v 1 = IntKind.i32.wrap ((BitVec.ofInt 32 v &&& BitVec.ofInt 32 1).toNat : Int) := rfl
  have e15 : (BitVec.ofInt 32 1).toNat = 2 ^ 1 - 1 := by decide
  rw [e, BitVec.toNat_and, BitVec.toNat_ofInt, e15, Nat.and_two_pow_sub_one_eq_mod, IntKind.wrap_i32]
  omega

/-! ### Bits, the lowest first -/
def valL : List Int → Int
  | [] => 0
  | b :: l => b + 2 * valL l
def Bits (l : List Int) : Prop := ∀ b ∈ l, b = 0 ∨ b = 1
/-- n bits of value v. -/
structure IsB (l : List Int) (n : Nat) (v : Int) : Prop where
  len : l.length = n
  bits : Bits l
  val : valL l = v

theorem Bits.cons {b : Int} {l : List Int} (h : Bits (b :: l)) : (b = 0 ∨ b = 1) ∧ Bits l := ⟨h b (by simp), fun x hx => h x (by simp [hx])⟩
theorem valL_append : ∀ (x y : List Int), valL (x ++ y) = valL x + 2 ^ x.length * valL y
  | [], y => by simp [valL]
  | b :: x, y => by
    simp only [List.cons_append, valL, valL_append x y, List.length_cons, Int.pow_succ]
    rw [show (2 : Int) ^ x.length * 2 * valL y = 2 * (2 ^ x.length * valL y) by rw [Int.mul_comm _ 2, Int.mul_assoc]]
    omega
theorem pow2_pos (n : Nat) : (0 : Int) < 2 ^ n := Int.pow_pos (by decide)
theorem valL_range : ∀ {l : List Int}, Bits l → 0 ≤ valL l ∧ valL l < 2 ^ l.length
  | [], _ => by simp [valL]
  | b :: l, h => by
    obtain ⟨h1, h2⟩ := h.cons
    have ih := valL_range h2
    simp only [valL, List.length_cons, Int.pow_succ]
    omega
theorem Bits.append {x y : List Int} (hx : Bits x) (hy : Bits y) : Bits (x ++ y) := fun b hb => (List.mem_append.1 hb).elim (hx b) (hy b)
theorem Bits.take {x : List Int} (hx : Bits x) (n : Nat) : Bits (x.take n) := fun b hb => hx b (List.mem_of_mem_take hb)
theorem Bits.drop {x : List Int} (hx : Bits x) (n : Nat) : Bits (x.drop n) := fun b hb => hx b (List.mem_of_mem_drop hb)
theorem Bits.zeros (n : Nat) : Bits (List.replicate n 0) := fun _ hb => .inl (List.mem_replicate.1 hb).2
theorem valL_zeros : ∀ n : Nat, valL (List.replicate n 0) = 0
  | 0 => rfl
  | n + 1 => by simp [List.replicate_succ, valL, valL_zeros n]
theorem valL_take {l : List Int} (h : Bits l) {k : Nat} (hk : k ≤ l.length) : valL (l.take k) = valL l % 2 ^ k := by
  have e := valL_append (l.take k) (l.drop k)
  rw [List.take_append_drop] at e
  have hr := valL_range (h.take k)
  rw [List.length_take, Nat.min_eq_left hk] at hr e
  rw [e, Int.add_mul_emod_self_left, Int.emod_eq_of_lt hr.1 hr.2]
theorem valL_drop {l : List Int} (h : Bits l) {k : Nat} (hk : k ≤ l.length) : valL (l.drop k) = valL l / 2 ^ k := by
  have e := valL_append (l.take k) (l.drop k)
  rw [List.take_append_drop] at e
  have hr := valL_range (h.take k)
  rw [List.length_take, Nat.min_eq_left hk] at hr e
  have hp := pow2_pos k
  rw [e, Int.add_mul_ediv_left _ _ (by omega), Int.ediv_eq_zero_of_lt hr.1 hr.2]
  omega
theorem valL_get {l : List Int} (h : Bits l) {i : Nat} (hi : i < l.length) : l.getD i 0 = valL l / 2 ^ i % 2 := by
  rw [← valL_drop h (by omega)]
  have hd : l.drop i = l.getD i 0 :: l.drop (i + 1) := by rw [List.drop_eq_getElem_cons hi]; simp [hi]
  have hb := h.drop i
  rw [hd] at hb ⊢
  have := hb.cons.1
  simp only [valL]
  omega
theorem Bits.get {l : List Int} (h : Bits l) {i : Nat} (hi : i < l.length) : l.getD i 0 = 0 ∨ l.getD i 0 = 1 := h _ (by simp [hi])

/-- Results, written out. -/
theorem t1 {k : IntKind} {a b : Int} (h : a = b) : FV.t (.s (.int k a)) = .t (.s (.int k b)) := by rw [h]
theorem t1b {a b : Bool} (h : a = b) : FV.t (.s (.bool a)) = .t (.s (.bool b)) := by rw [h]
theorem t2 {k k' : IntKind} {a b a' b' : Int} (h : a = a') (h' : b = b') : FV.tup [.s (.int k a), .s (.int k' b)] = .tup [.s (.int k a'), .s (.int k' b')] := by rw [h, h']
theorem t2b {k : IntKind} {a a' : Int} {b b' : Bool} (h : a = a') (h' : b = b') : FV.tup [.s (.int k a), .s (.bool b)] = .tup [.s (.int k a'), .s (.bool b')] := by rw [h, h']
theorem t3 {k k' k'' : IntKind} {a b c a' b' c' : Int} (h : a = a') (h' : b = b') (h'' : c = c') : FV.tup [.s (.int k a), .s (.int k' b), .s (.int k'' c)] = .tup [.s (.int k a'), .s (.int k' b'), .s (.int k'' c')] := by rw [h, h', h'']
theorem t3b {k k' : IntKind} {a b a' b' : Int} {c c' : Bool} (h : a = a') (h' : b = b') (h'' : c = c') : FV.tup [.s (.int k a), .s (.int k' b), .s (.bool c)] = .tup [.s (.int k a'), .s (.int k' b'), .s (.bool c')] := by rw [h, h', h'']
end Go.Proofs
namespace Go.Proofs
open Go Go.Sx
theorem fdiv32u (x : Int) : x.fdiv (2 ^ min 32 IntKind.u64.bits) = x / 4294967296 := Int.fdiv_eq_ediv_of_nonneg _ (by decide)
theorem fdiv31u (x : Int) : x.fdiv (2 ^ min 31 IntKind.u32.bits) = x / 2147483648 := Int.fdiv_eq_ediv_of_nonneg _ (by decide)
theorem mul_range {x y : Int} (hx : 0 ≤ x) (hx' : x < 4294967296) (hy : 0 ≤ y) (hy' : y < 4294967296) : 0 ≤ x * y ∧ x * y ≤ 18446744065119617025 := by
  refine ⟨Int.mul_nonneg hx hy, ?_⟩
  have := Int.mul_le_mul (show x ≤ 4294967295 by omega) (show y ≤ 4294967295 by omega) hy (by decide)
  omega
theorem mul_U (a b : Int) : 0 ≤ Uw a * Uw b ∧ Uw a * Uw b ≤ 18446744065119617025 := mul_range (Uw_lo a) (Uw_hi a) (Uw_lo b) (Uw_hi b)

/-- A word of 32 bits. -/
abbrev V32 (n : Int) : BitVec 32 := BitVec.ofInt 32 n
theorem bits_u32 (op : BinOp) (f : BitVec 32 → BitVec 32 → BitVec 32) (hf : ∀ x y, bits op .u32 x y = IntKind.u32.wrap ((f (V32 x) (V32 y)).toNat : Int)) (x y : Int) :
    V32 (bits op .u32 x y) = f (V32 x) (V32 y) ∧ 0 ≤ bits op .u32 x y ∧ bits op .u32 x y < 4294967296 := by
  have h := (f (V32 x) (V32 y)).isLt
  rw [hf, IntKind.wrap_u32]
  have e : (((f (V32 x) (V32 y)).toNat : Int) % 4294967296) = ((f (V32 x) (V32 y)).toNat : Int) := by omega
  rw [e]
  refine ⟨?_, by omega, by omega⟩
  show BitVec.ofInt 32 _ = _
  rw [BitVec.ofInt_natCast, BitVec.ofNat_toNat]
  simp
theorem V32_and (x y : Int) : V32 (bits .and .u32 x y) = V32 x &&& V32 y ∧ 0 ≤ bits .and .u32 x y ∧ bits .and .u32 x y < 4294967296 := bits_u32 .and (· &&& ·) (fun _ _ => rfl) x y
theorem V32_or (x y : Int) : V32 (bits .or .u32 x y) = V32 x ||| V32 y ∧ 0 ≤ bits .or .u32 x y ∧ bits .or .u32 x y < 4294967296 := bits_u32 .or (· ||| ·) (fun _ _ => rfl) x y
theorem V32_xor (x y : Int) : V32 (bits .xor .u32 x y) = V32 x ^^^ V32 y ∧ 0 ≤ bits .xor .u32 x y ∧ bits .xor .u32 x y < 4294967296 := bits_u32 .xor (· ^^^ ·) (fun _ _ => rfl) x y
theorem V32_not (x : Int) : V32 (notI .u32 x) = ~~~ V32 x := by
  have h : V32 (notI .u32 x) = V32 4294967295 ^^^ V32 x := (V32_xor 4294967295 x).1
  have e : V32 4294967295 = BitVec.allOnes 32 := by decide
  rw [h, e, BitVec.allOnes_xor]
theorem msb_V32 (x : Int) : (V32 x).msb = decide (2147483648 ≤ x % 4294967296) := by
  rw [BitVec.msb_eq_decide, BitVec.toNat_ofInt]
  congr 1
  apply propext
  have h : ((2 ^ 32 : Nat) : Int) = 4294967296 := rfl
  rw [h]
  constructor <;> intro h' <;> omega
theorem top_V32 {x : Int} (h0 : 0 ≤ x) (h1 : x < 4294967296) : x / 2147483648 = cond (V32 x).msb 1 0 := by
  rw [msb_V32]
  by_cases h : 2147483648 ≤ x % 4294967296
  · rw [decide_eq_true h]; simp only [cond_true]; omega
  · rw [decide_eq_false h]; simp only [cond_false]; omega

/-- math/bits' borrow. -/
theorem borrow32 (x y b d : Int) (hx : 0 ≤ x) (hx' : x < 4294967296) (hy : 0 ≤ y) (hy' : y < 4294967296) (hb : b = 0 ∨ b = 1) (hd : d = (x - y - b) % 4294967296) :
    (bits .or .u32 (bits .and .u32 (notI .u32 x) y) (bits .and .u32 (notI .u32 (bits .xor .u32 x y)) d)) / 2147483648 = -((x - y - b) / 4294967296) := by
  have h1 := V32_or (bits .and .u32 (notI .u32 x) y) (bits .and .u32 (notI .u32 (bits .xor .u32 x y)) d)
  rw [top_V32 h1.2.1 h1.2.2, h1.1, (V32_and _ _).1, (V32_and _ _).1, V32_not, V32_not, (V32_xor _ _).1]
  simp only [BitVec.msb_or, BitVec.msb_and, BitVec.msb_not, BitVec.msb_xor, msb_V32]
  by_cases h2 : 2147483648 ≤ x % 4294967296 <;> by_cases h3 : 2147483648 ≤ y % 4294967296 <;> by_cases h4 : 2147483648 ≤ d % 4294967296 <;> simp [h2, h3, h4] <;> omega
end Go.Proofs
namespace Go.Proofs
open Go Go.Sx
theorem wrap64c {n : Int} (h : I32 n) : IntKind.i64.wrap n = n := by unfold I32 at h; rw [IntKind.wrap_i64]; omega
end Go.Proofs
namespace Go.Proofs
open Go Go.Sx
theorem or64 {h l : Int} (h0 : 0 ≤ h) (h1 : h < 4294967296) (l0 : 0 ≤ l) (l1 : l < 4294967296) : bits .or .u64 (h * 4294967296) l = h * 4294967296 + l := by
  have e : bits .or .u64 (h * 4294967296) l = IntKind.u64.wrap ((BitVec.ofInt 64 (h * 4294967296) ||| BitVec.ofInt 64 l).toNat : Int) := rfl
  rw [e, BitVec.toNat_or, BitVec.toNat_ofInt, BitVec.toNat_ofInt]
  have e1 : (h * 4294967296 % ((2 ^ 64 : Nat) : Int)).toNat = 2 ^ 32 * h.toNat := by
    have : ((2 ^ 64 : Nat) : Int) = 18446744073709551616 := rfl
    rw [this]; omega
  have e2 : (l % ((2 ^ 64 : Nat) : Int)).toNat = l.toNat := by
    have : ((2 ^ 64 : Nat) : Int) = 18446744073709551616 := rfl
    rw [this]; omega
  rw [e1, e2, ← Nat.two_pow_add_eq_or_of_lt (by omega), IntKind.wrap_u64]
  omega
/-- A double word's value, as the program makes it. -/
theorem dv_prog (hi lo : Int) : bits .or .u64 (IntKind.u64.wrap (IntKind.u64.wrap (IntKind.u32.wrap hi) * 2 ^ min 32 IntKind.u64.bits)) (IntKind.u64.wrap (IntKind.u32.wrap lo)) = Dv hi lo := by
  have e1 : IntKind.u64.wrap (IntKind.u64.wrap (IntKind.u32.wrap hi) * 2 ^ min 32 IntKind.u64.bits) = Uw hi * 4294967296 := by
    show IntKind.u64.wrap (IntKind.u64.wrap (IntKind.u32.wrap hi) * 4294967296) = _
    simp only [IntKind.wrap_u64, IntKind.wrap_u32, Uw]; omega
  have e2 : IntKind.u64.wrap (IntKind.u32.wrap lo) = Uw lo := by simp only [IntKind.wrap_u64, IntKind.wrap_u32, Uw]; omega
  rw [e1, e2, or64 (Uw_lo hi) (Uw_hi hi) (Uw_lo lo) (Uw_hi lo)]; rfl

theorem pow_split {m n : Nat} (h : m ≤ n) : (2 : Int) ^ n = 2 ^ m * 2 ^ (n - m) := by rw [← Int.pow_add]; congr 1; omega
theorem shl_min (z : Int) (m : Nat) : z * 2 ^ min m IntKind.u64.bits % 18446744073709551616 = z * 2 ^ m % 18446744073709551616 := by
  have e64 : IntKind.u64.bits = 64 := rfl
  rw [e64]
  rcases Nat.le_total m 64 with h | h
  · rw [Nat.min_eq_left h]
  · rw [Nat.min_eq_right h, pow_split h, show (2 : Int) ^ 64 = 18446744073709551616 by decide, Int.mul_emod_left, ← Int.mul_assoc, Int.mul_comm z, Int.mul_assoc, Int.mul_emod_right]
theorem shr_min {z : Int} (h0 : 0 ≤ z) (h1 : z < 18446744073709551616) (m : Nat) : z.fdiv (2 ^ min m IntKind.u64.bits) = z / 2 ^ m := by
  have e64 : IntKind.u64.bits = 64 := rfl
  have hp := pow2_pos (min m 64)
  rw [e64, Int.fdiv_eq_ediv_of_nonneg _ (by omega)]
  rcases Nat.le_total m 64 with h | h
  · rw [Nat.min_eq_left h]
  · rw [Nat.min_eq_right h]
    have e : (2 : Int) ^ 64 = 18446744073709551616 := by decide
    have : (2 : Int) ^ 64 ≤ 2 ^ m := by rw [pow_split h]; have := pow2_pos (m - 64); have e2 := Int.mul_le_mul_of_nonneg_left (show (1 : Int) ≤ 2 ^ (m - 64) by omega) (show (0 : Int) ≤ 2 ^ 64 by decide); omega
    rw [Int.ediv_eq_zero_of_lt h0 (by omega), Int.ediv_eq_zero_of_lt h0 (by omega)]
theorem shlV_lo (z n : Int) : 0 ≤ shlV z n := by unfold shlV; omega
theorem shlV_hi (z n : Int) : shlV z n < 18446744073709551616 := by unfold shlV; omega
theorem shrV_lo {z : Int} (n : Int) (h0 : 0 ≤ z) : 0 ≤ shrV z n := Int.ediv_nonneg h0 (by have := pow2_pos (Uw n).toNat; omega)
theorem shrV_le {z : Int} (n : Int) (h0 : 0 ≤ z) : shrV z n ≤ z := Int.ediv_le_self _ h0

/-- How many bits a number takes. -/
def bitLen (n : Nat) : Nat := if n = 0 then 0 else Nat.log2 n + 1
theorem bitLen_of {z n : Nat} (h1 : 2 ^ n ≤ z) (h2 : z < 2 ^ (n + 1)) : bitLen z = n + 1 := by
  have hz : z ≠ 0 := by have := Nat.two_pow_pos n; omega
  unfold bitLen
  rw [if_neg hz, (Nat.log2_eq_iff hz).2 ⟨h1, h2⟩]
theorem bitLen_spec {z : Nat} (hz : z ≠ 0) : 2 ^ (bitLen z - 1) ≤ z ∧ z < 2 ^ bitLen z := by
  have := (Nat.log2_eq_iff (k := Nat.log2 z) hz).1 rfl
  unfold bitLen; rw [if_neg hz]; exact this
/-- Ahead of the low n bits. -/
theorem bitLen_div {z n : Nat} (h : z / 2 ^ n ≠ 0) : bitLen z = n + bitLen (z / 2 ^ n) := by
  have hs := bitLen_spec h
  have hp : bitLen (z / 2 ^ n) = bitLen (z / 2 ^ n) - 1 + 1 := by
    have : bitLen (z / 2 ^ n) ≠ 0 := by unfold bitLen; rw [if_neg h]; omega
    omega
  rw [hp] at hs ⊢
  generalize bitLen (z / 2 ^ n) - 1 = k at hs
  simp only [Nat.add_sub_cancel] at hs
  have hpos := Nat.two_pow_pos n
  refine (bitLen_of (n := n + k) ?_ ?_).trans (by omega)
  · rw [Nat.pow_add, Nat.mul_comm]; exact Nat.le_trans (Nat.mul_le_mul_right _ hs.1) (Nat.div_mul_le_self _ _)
  · have := (Nat.div_lt_iff_lt_mul hpos).1 hs.2
    rw [show n + k + 1 = (k + 1) + n by omega, Nat.pow_add]; exact this
theorem lzN_len (z : Int) (h : 0 ≤ z) : lzN z = 64 - (bitLen z.toNat : Int) := by
  unfold lzN bitLen
  by_cases hz : z = 0
  · subst hz; rfl
  · rw [if_neg hz, if_neg (by omega)]; omega
end Go.Proofs

namespace Go.Proofs
open Go Go.Sx
def intsI (l : List Int) : List Value := l.map (Value.int .i64)
@[simp] theorem intsI_length (l : List Int) : (intsI l).length = l.length := by simp [intsI]
theorem intsI_append (a b : List Int) : intsI (a ++ b) = intsI a ++ intsI b := by simp [intsI]
theorem intsI_one (l : List Int) : ∀ u ∈ intsI l, u.oneCell' = true := by
  intro u hu; obtain ⟨n, _, rfl⟩ := List.mem_map.1 hu; rfl
theorem intsI_get {l : List Int} {j : Nat} (h : j < l.length) : (intsI l)[j]? = some (SV.int .i64 (l.getD j 0)).cv := by
  simp [intsI, h, SV.cv, SV.den]
theorem intsI_at {l : List Int} {j : Nat} (h : j < l.length) : (intsI l)[0 + j * (0 + 1)]? = some (SV.int .i64 (l.getD j 0)).cv := by
  rw [Nat.zero_add, Nat.zero_add, Nat.mul_one]; exact intsI_get h
theorem seg_intsI (l : List Int) (a n : Nat) : seg (intsI l) a n = intsI ((l.drop a).take n) := by
  simp [seg, intsI, List.map_drop, List.map_take]
theorem seg_one (xs : List Value) (a n : Nat) (h : ∀ u ∈ xs, u.oneCell' = true) : ∀ u ∈ seg xs a n, u.oneCell' = true :=
  fun u hu => h u (List.mem_of_mem_drop (List.mem_of_mem_take hu))
theorem one_u {v : Value} (h : v.oneCell' = true) : ∀ u ∈ [v], u.oneCell' = true := fun u hu => by
  cases List.mem_singleton.1 hu; exact h
theorem wrap64 {n : Int} (h1 : -9223372036854775808 ≤ n) (h2 : n ≤ 9223372036854775807) : IntKind.i64.wrap n = n := by rw [IntKind.wrap_i64]; omega
theorem wrapSucc {i : Nat} (h : i < 4611686018427387904) : IntKind.i64.wrap ((i : Int) + 1) = ((i + 1 : Nat) : Int) := by rw [wrap64 (by omega) (by omega)]; simp
theorem fvi {k : IntKind} {a b : Int} {ρ : Nat → Nat} (h : a = b) : FV.t (.s (.int k a)) = FV.rn ρ (.t (.s (.int k b))) := by rw [h]; rfl
theorem fvb {a b : Bool} {ρ : Nat → Nat} (h : a = b) : FV.t (.s (.bool a)) = FV.rn ρ (.t (.s (.bool b))) := by rw [h]; rfl
theorem fvsl {i j off n c n' c' : Nat} {ρ : Nat → Nat} (hj : j = ρ i) (h : n = n') (hc : c = c') : FV.t (.s (.sl j off n c)) = FV.rn ρ (.t (.s (.sl i off n' c'))) := by rw [h, hc, hj]; rfl
theorem chs1 {c c' : Ch} (h : c = c') : [c] = [c'] := by rw [h]
end Go.Proofs
namespace Go.Proofs
open Go Go.Sx
theorem i32_fit {x : Int} (h : (Lit.int .i32 x).wf = true) : I32 x := by
  simp [Lit.wf, IntKind.min, IntKind.max, IntKind.signed, IntKind.bits] at h
  exact h
end Go.Proofs

namespace Go.Proofs
open Go Go.Sx
def bytesI (l : List Int) : List Value := l.map (Value.int .u8)
@[simp] theorem bytesI_length (l : List Int) : (bytesI l).length = l.length := by simp [bytesI]
theorem bytesI_append (a b : List Int) : bytesI (a ++ b) = bytesI a ++ bytesI b := by simp [bytesI]
theorem bytesI_one (l : List Int) : ∀ u ∈ bytesI l, u.oneCell' = true := by
  intro u hu; obtain ⟨n, _, rfl⟩ := List.mem_map.1 hu; rfl
theorem bytesI_at {l : List Int} {j : Nat} (h : j < l.length) : (bytesI l)[j]? = some (SV.int .u8 (l.getD j 0)).cv := by
  simp [bytesI, h, SV.cv, SV.den]
theorem seg_bytesI (l : List Int) (a n : Nat) : seg (bytesI l) a n = bytesI ((l.drop a).take n) := by
  simp [seg, bytesI, List.map_drop, List.map_take]
/-- l with v from place off on. -/
def setL (l : List Int) (off : Nat) (v : List Int) : List Int := l.take off ++ v ++ l.drop (off + v.length)
theorem setV_bytesI (l : List Int) (off : Nat) (v : List Int) : setV (bytesI l) off (bytesI v) = bytesI (setL l off v) := by
  simp [setV, setL, bytesI, List.map_take, List.map_drop]
theorem setL_length {l v : List Int} {off : Nat} (h : off + v.length ≤ l.length) : (setL l off v).length = l.length := by
  simp [setL]; omega
/-- Where an address lies. -/
def ofAt (at_ : Int) : Int := at_ + 2147483648
/-- Not within n bytes. -/
def spanBad (n : Nat) (at_ k : Int) : Bool := bif decide (ofAt at_ ≥ n) then true else decide (k > n - ofAt at_)
/-- May a memory have n bytes. -/
def mayM (n : Int) : Bool := bif bif decide (n ≥ 1024) then decide (n ≤ 65536) else false then n.tmod 4 == 0 else false
abbrev mBox (n : Nat) : Ch := .blk 94 [.sl 1 0 n n]
abbrev mOwn (l : List Int) : Ch := .own 5 1 l.length (bytesI l)
end Go.Proofs
