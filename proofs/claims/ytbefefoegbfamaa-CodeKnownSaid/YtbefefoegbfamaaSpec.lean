/- The numbers of chapter 04's functions, and the names by numbers. -/
import Derived.Test.YtbefefoegbfamaaTt
import Derived.Test.YtbefefoegbfamaaSxC

namespace Go.Proofs
open Go Go.Sx
abbrev ks3 : List Nat := k_l04_CodeGets
theorem cal3 : Sx.Callee Try.prog 3 := cal_l04_CodeGets
abbrev ks4 : List Nat := k_l04_CodeFront
theorem cal4 : Sx.Callee Try.prog 4 := cal_l04_CodeFront
abbrev ks5 : List Nat := k_l04_CodeShortest
theorem cal5 : Sx.Callee Try.prog 5 := cal_l04_CodeShortest
abbrev ks6 : List Nat := k_l04_CodePuts
theorem cal6 : Sx.Callee Try.prog 6 := cal_l04_CodePuts
abbrev ks7 : List Nat := k_l04_CodePads
theorem cal7 : Sx.Callee Try.prog 7 := cal_l04_CodePads
abbrev ks8 : List Nat := k_l04_CodeLists
theorem cal8 : Sx.Callee Try.prog 8 := cal_l04_CodeLists
abbrev ks9 : List Nat := k_l04_CodeBack
theorem cal9 : Sx.Callee Try.prog 9 := cal_l04_CodeBack
abbrev ks10 : List Nat := k_l04_CodeKnown
theorem cal10 : Sx.Callee Try.prog 10 := cal_l04_CodeKnown
abbrev ks11 : List Nat := k_code_Get
theorem cal11 : Sx.Callee Try.prog 11 := cal_code_Get
abbrev ks12 : List Nat := k_r04_Get
theorem cal12 : Sx.Callee Try.prog 12 := cal_r04_Get
abbrev ks13 : List Nat := k_l04_works
theorem cal13 : Sx.Callee Try.prog 13 := cal_l04_works
abbrev ks14 : List Nat := k_code_Put
theorem cal14 : Sx.Callee Try.prog 14 := cal_code_Put
abbrev ks15 : List Nat := k_code_Len
theorem cal15 : Sx.Callee Try.prog 15 := cal_code_Len
abbrev ks16 : List Nat := k_r04_Put
theorem cal16 : Sx.Callee Try.prog 16 := cal_r04_Put
abbrev ks17 : List Nat := k_r04_Len
theorem cal17 : Sx.Callee Try.prog 17 := cal_r04_Len
abbrev ks18 : List Nat := k_code_Pad
theorem cal18 : Sx.Callee Try.prog 18 := cal_code_Pad
abbrev ks19 : List Nat := k_r04_Pad
theorem cal19 : Sx.Callee Try.prog 19 := cal_r04_Pad
abbrev ks20 : List Nat := k_l04_fix
theorem cal20 : Sx.Callee Try.prog 20 := cal_l04_fix
abbrev ks21 : List Nat := k_code_Join
theorem cal21 : Sx.Callee Try.prog 21 := cal_code_Join
abbrev ks22 : List Nat := k_r04_Join
theorem cal22 : Sx.Callee Try.prog 22 := cal_r04_Join
abbrev ks23 : List Nat := k_code_All
theorem cal23 : Sx.Callee Try.prog 23 := cal_code_All
abbrev ks24 : List Nat := k_r04_All
theorem cal24 : Sx.Callee Try.prog 24 := cal_r04_All
abbrev ks25 : List Nat := k_r04_Same
theorem cal25 : Sx.Callee Try.prog 25 := cal_r04_Same
abbrev ks26 : List Nat := k_l04_puts
theorem cal26 : Sx.Callee Try.prog 26 := cal_l04_puts
abbrev ks27 : List Nat := k_l04_make16
theorem cal27 : Sx.Callee Try.prog 27 := cal_l04_make16
abbrev ks28 : List Nat := k_r01_Wrap
theorem cal28 : Sx.Callee Try.prog 28 := cal_r01_Wrap
abbrev ks29 : List Nat := k_code_valid
theorem cal29 : Sx.Callee Try.prog 29 := cal_code_valid
abbrev ks30 : List Nat := k_code_put
theorem cal30 : Sx.Callee Try.prog 30 := cal_code_put
abbrev ks31 : List Nat := k_r04_Valid
theorem cal31 : Sx.Callee Try.prog 31 := cal_r04_Valid
abbrev ks32 : List Nat := k_r04_encode
theorem cal32 : Sx.Callee Try.prog 32 := cal_r04_encode
abbrev ks33 : List Nat := k_code_each
theorem cal33 : Sx.Callee Try.prog 33 := cal_code_each
abbrev ks34 : List Nat := k_code_each_1
theorem cal34 : Sx.Callee Try.prog 34 := cal_code_each_1
end Go.Proofs

namespace Go.Proofs
open Go Go.Sx

def bytesI (l : List Int) : List Value := l.map (Value.int .u8)
@[simp] theorem bytesI_length (l : List Int) : (bytesI l).length = l.length := by simp [bytesI]
theorem bytesI_append (a b : List Int) : bytesI (a ++ b) = bytesI a ++ bytesI b := by simp [bytesI]
theorem bytesI_one (l : List Int) : ∀ u ∈ bytesI l, u.oneCell' = true := by
  intro u hu; obtain ⟨n, _, rfl⟩ := List.mem_map.1 hu; rfl
theorem bytesI_get {l : List Int} {j : Nat} (h : j < l.length) : (bytesI l)[j]? = some (SV.int .u8 (l.getD j 0)).cv := by
  simp [bytesI, h, SV.cv, SV.den]
theorem bytesI_at {l : List Int} {j : Nat} (h : j < l.length) : (bytesI l)[0 + j * (0 + 1)]? = some (SV.int .u8 (l.getD j 0)).cv := by
  rw [Nat.zero_add, Nat.zero_add, Nat.mul_one]; exact bytesI_get h
theorem wrap64 {n : Int} (h1 : -9223372036854775808 ≤ n) (h2 : n ≤ 9223372036854775807) : IntKind.i64.wrap n = n := by rw [IntKind.wrap_i64]; omega
theorem wrapSucc {i : Nat} (h : i < 4611686018427387904) : IntKind.i64.wrap ((i : Int) + 1) = ((i + 1 : Nat) : Int) := by rw [wrap64 (by omega) (by omega)]; simp
theorem fvi {k : IntKind} {a b : Int} {ρ : Nat → Nat} (h : a = b) : FV.t (.s (.int k a)) = FV.rn ρ (.t (.s (.int k b))) := by rw [h]; rfl
theorem fvb {a b : Bool} {ρ : Nat → Nat} (h : a = b) : FV.t (.s (.bool a)) = FV.rn ρ (.t (.s (.bool b))) := by rw [h]; rfl
theorem wrap32 {n : Int} (h1 : -2147483648 ≤ n) (h2 : n ≤ 2147483647) : IntKind.i32.wrap n = n := by rw [IntKind.wrap_i32]; omega
theorem notI_i32 {v : Int} (h1 : -2147483648 ≤ v) (h2 : v ≤ 2147483647) : notI .i32 v = -1 - v := by
  have e : BitVec.ofInt 32 (-1) = BitVec.allOnes 32 := by decide
  have : notI .i32 v = IntKind.i32.wrap ((BitVec.ofInt 32 (-1) ^^^ BitVec.ofInt 32 v).toNat : Int) := rfl
  rw [this, e, BitVec.allOnes_xor, BitVec.toNat_not, BitVec.toNat_ofInt, IntKind.wrap_i32]
  omega
theorem seg_bytesI (l : List Int) (a n : Nat) : seg (bytesI l) a n = bytesI ((l.drop a).take n) := by
  simp [seg, bytesI, List.map_drop, List.map_take]
theorem seg_one (xs : List Value) (a n : Nat) (h : ∀ u ∈ xs, u.oneCell' = true) : ∀ u ∈ seg xs a n, u.oneCell' = true :=
  fun u hu => h u (List.mem_of_mem_drop (List.mem_of_mem_take hu))

def validS (fn : Int) : Bool := cond (cond (decide (fn ≤ 15)) (fn != 2) false) (fn != 6) false

def lastB (fn v : Int) : Int := bits .or .u8 (IntKind.u8.wrap (fn * 2 ^ min 4 IntKind.u8.bits)) (IntKind.u8.wrap (bits .and .i32 v 15))

/-- put's bytes: the prefixes, then the instruction's own byte. -/
def putF : Nat → Int → Int → List Int
  | 0, fn, v => [lastB fn v]
  | n + 1, fn, v =>
    if v < 0 then putF n 6 ((notI .i32 v).fdiv (2 ^ min 4 IntKind.i32.bits)) ++ [lastB fn v]
    else if v > 15 then putF n 2 (v.fdiv (2 ^ min 4 IntKind.i32.bits)) ++ [lastB fn v]
    else [lastB fn v]
def PutOk : Nat → Int → Prop
  | 0, v => 0 ≤ v ∧ v ≤ 15
  | n + 1, v => (v < 0 → PutOk n ((notI .i32 v).fdiv (2 ^ min 4 IntKind.i32.bits))) ∧ (v > 15 → PutOk n (v.fdiv (2 ^ min 4 IntKind.i32.bits)))
theorem putOk_mono : ∀ (n : Nat) (v : Int), -(16 ^ n : Int) * 16 ≤ v → v ≤ (16 ^ n : Int) * 16 - 1 → n ≤ 7 → (n = 0 → 0 ≤ v) → -2147483648 ≤ v → v ≤ 2147483647 → PutOk n v
  | 0, v, h1, h2, _, h0, _, _ => ⟨h0 rfl, by omega⟩
  | n + 1, v, h1, h2, hn, _, h3, h4 => by
    have e : ∀ x : Int, x.fdiv (2 ^ min 4 IntKind.i32.bits) = x / 16 := fun x => Int.fdiv_eq_ediv_of_nonneg _ (by decide)
    have hp : (16 : Int) ^ (n + 1) = 16 ^ n * 16 := Int.pow_succ _ _
    have hpos : (0 : Int) < 16 ^ n := Int.pow_pos (by decide)
    refine ⟨fun h => ?_, fun h => ?_⟩
    · rw [notI_i32 h3 h4, e]
      refine putOk_mono n _ ?_ ?_ (by omega) (fun _ => ?_) ?_ ?_ <;> omega
    · rw [e]
      refine putOk_mono n _ ?_ ?_ (by omega) (fun _ => ?_) ?_ ?_ <;> omega
theorem putOk_i32 {v : Int} (h1 : -2147483648 ≤ v) (h2 : v ≤ 2147483647) : PutOk 8 v := by
  have e : ∀ x : Int, x.fdiv (2 ^ min 4 IntKind.i32.bits) = x / 16 := fun x => Int.fdiv_eq_ediv_of_nonneg _ (by decide)
  refine ⟨fun h => ?_, fun h => ?_⟩
  · rw [notI_i32 h1 h2, e]
    refine putOk_mono 7 _ ?_ ?_ (by omega) ?_ ?_ ?_ <;> omega
  · rw [e]
    refine putOk_mono 7 _ ?_ ?_ (by omega) ?_ ?_ ?_ <;> omega
theorem putF_length : ∀ (n : Nat) (fn v : Int), (putF n fn v).length ≤ n + 1
  | 0, _, _ => by simp [putF]
  | n + 1, fn, v => by
    have h1 := putF_length n 6 ((notI .i32 v).fdiv (2 ^ min 4 IntKind.i32.bits))
    have h2 := putF_length n 2 (v.fdiv (2 ^ min 4 IntKind.i32.bits))
    simp only [putF]
    split
    · simp; omega
    · split
      · simp; omega
      · simp

/-- Get, from a byte on: the operand so far and how many bytes went before. -/
def getL (o : Int) (i : Nat) : List Int → Option (Int × Int × Nat)
  | [] => none
  | b :: r =>
    let o1 := bits .or .i32 o (IntKind.i32.wrap (bits .and .u8 b 15))
    let f := b.fdiv (2 ^ min 4 IntKind.u8.bits)
    if f = 2 then getL (IntKind.i32.wrap (o1 * 2 ^ min 4 IntKind.i32.bits)) (i + 1) r
    else if f = 6 then getL (IntKind.i32.wrap (notI .i32 o1 * 2 ^ min 4 IntKind.i32.bits)) (i + 1) r
    else some (f, o1, i + 1)
/-- Get: the instruction, the number of bytes, the error. -/
def getS (bs : List Int) : Int × Int × Int × Int := match getL 0 0 (bs.take 16) with
  | some (f, o, n) => (f, o, (n : Int), 0)
  | none => if bs.length < 16 then (0, 0, 0, 40) else (0, 0, 0, 3)

def wrapS (t : Int) : Int :=
  let t1 := t.tmod 4294967296
  let t2 := if t1 < 0 then IntKind.i64.wrap (t1 + 4294967296) else t1
  let t3 := if t2 ≥ 2147483648 then IntKind.i64.wrap (t2 - 4294967296) else t2
  IntKind.i32.wrap t3

/-- The reference's Get, from a byte on. -/
def refL (o : Int) (i : Nat) : List Int → Option (Int × Int × Nat)
  | [] => none
  | b :: r =>
    let f := IntKind.u8.wrap (b.tdiv 16)
    let o1 := IntKind.i64.wrap (o + IntKind.i64.wrap (b.tmod 16))
    cond (cond (f != 2) (f != 6) false) (some (f, IntKind.i32.wrap o1, i + 1))
      (cond (f == 6) (refL (IntKind.i64.wrap (wrapS (IntKind.i64.wrap (16 * IntKind.i64.wrap (-1 - o1))))) (i + 1) r)
        (refL (IntKind.i64.wrap (wrapS (IntKind.i64.wrap (16 * o1)))) (i + 1) r))
def refGetS (bs : List Int) : Int × Int × Int × Int := match refL 0 0 (bs.take 16) with
  | some (f, o, n) => (f, o, (n : Int), 0)
  | none => if bs.length < 16 then (0, 0, 0, 40) else (0, 0, 0, 3)

end Go.Proofs

namespace Go.Proofs
open Go Go.Sx

def encB (fn v : Int) : Int := IntKind.u8.wrap (IntKind.i64.wrap (IntKind.i64.wrap (16 * fn) + (IntKind.i64.wrap (v.tmod 16 + 16)).tmod 16))
/-- The reference's encoding. -/
def encF : Nat → Int → Int → List Int
  | 0, fn, v => [encB fn v]
  | n + 1, fn, v =>
    if v ≥ 16 then encF n 2 (IntKind.i64.wrap (v.tdiv 16)) ++ [encB fn v]
    else if v < 0 then encF n 6 (IntKind.i64.wrap ((IntKind.i64.wrap (-1 - v)).tdiv 16)) ++ [encB fn v]
    else [encB fn v]
def EncOk : Nat → Int → Prop
  | 0, v => 0 ≤ v ∧ v ≤ 15
  | n + 1, v => (v ≥ 16 → EncOk n (IntKind.i64.wrap (v.tdiv 16))) ∧ (v < 0 → EncOk n (IntKind.i64.wrap ((IntKind.i64.wrap (-1 - v)).tdiv 16)))
theorem encF_length : ∀ (n : Nat) (fn v : Int), (encF n fn v).length ≤ n + 1
  | 0, _, _ => by simp [encF]
  | n + 1, fn, v => by
    have h1 := encF_length n 6 (IntKind.i64.wrap ((IntKind.i64.wrap (-1 - v)).tdiv 16))
    have h2 := encF_length n 2 (IntKind.i64.wrap (v.tdiv 16))
    simp only [encF]
    split
    · simp; omega
    · split
      · simp; omega
      · simp
def refValidS (fn : Int) : Bool := cond (cond (decide (fn < 16)) (fn != 2) false) (fn != 6) false
/-- The bytes that put appends, and the reference's. -/
def refPutS (fn v : Int) : List Int := encF 7 (IntKind.i64.wrap fn) (IntKind.i64.wrap v)
def refLenS (fn v : Int) : Int := if refValidS fn = true then ((refPutS fn v).length : Int) else 0
end Go.Proofs

namespace Go.Proofs
open Go Go.Sx
def putS (fn v : Int) : List Int := if validS fn = true then putF 7 fn v else []
def putE (fn : Int) : Int := if validS fn = true then 0 else 2
def rputS (fn v : Int) : List Int := if refValidS fn = true then refPutS fn v else []
def rputE (fn : Int) : Int := if refValidS fn = true then 0 else 2
def padE (fn v n : Int) : Int := if validS fn = false then 2 else if n < ((putF 7 fn v).length : Int) then 4 else if n > 16 then 3 else 0
def padS (fn v n : Int) : List Int := if padE fn v n = 0 then List.replicate (n - ((putF 7 fn v).length : Int)).toNat 32 ++ putF 7 fn v else []
def rpadE (fn v n : Int) : Int := if refValidS fn = false then 2 else if n < refLenS fn v then 4 else if n > 16 then 3 else 0
def rpadS (fn v n : Int) : List Int := if rpadE fn v n = 0 then List.replicate (n - refLenS fn v).toNat 32 ++ rputS fn v else []
theorem bytesI_rep (k : Nat) : bytesI (List.replicate k 32) ++ [Value.int .u8 32] = bytesI (List.replicate (k + 1) 32) := by
  rw [List.replicate_succ', bytesI_append]; rfl
end Go.Proofs

namespace Go.Proofs
open Go Go.Sx
def fixS (fn : Int) : Int := if (fn.tmod 16 = 2 ∨ fn.tmod 16 = 6) then IntKind.u8.wrap (fn.tmod 16 + 1) else fn.tmod 16
end Go.Proofs
