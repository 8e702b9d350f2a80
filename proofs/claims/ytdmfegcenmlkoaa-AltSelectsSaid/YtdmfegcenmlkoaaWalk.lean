/- Memories as a whole: words read and stored, without cases. -/
import Derived.Test.YtdmfegcenmlkoaaTt
import Derived.Test.YtdmfegcenmlkoaaSpec
import Derived.Test.YtdmfegcenmlkoaaSxC

namespace Go.Proofs
open Go Go.Sx
set_option maxRecDepth 10000
theorem may_c (n : Int) : Con Try.prog f_mem_may [.s (.int .i64 n)] [] (.ret (.t (.s (.bool (mayM n)))) []) := by
  intro K hK
  refine enter fn_mem_may rfl nt_mem_may rfl rfl (fun φ w0 β0 F => ?_)
  refine c_run tt_ok (ct := []) trivial k_mem_may [] 60 (by kernel_rfl) ?_
  exact fin_k tt_ok (rs := rs_mem_may) rfl rfl hK [] rfl rfl rfl rfl rfl rfl
theorem none_c (n c c' : Nat) (xs : List Value) : Con Try.prog f_mem_Mem_none [.s (.loc 0 0)] [.blk 65 [.sl 1 0 n c], .own 5 1 c' xs] (.ret (.t (.s (.bool ((n : Int) == 0)))) [.blk 65 [.sl 1 0 n c], .own 5 1 c' xs]) := by
  intro K hK
  refine enter fn_mem_Mem_none rfl nt_mem_Mem_none rfl rfl (fun φ w0 β0 F => ?_)
  refine c_run tt_ok (ct := []) trivial k_mem_Mem_none [] 60 (by kernel_rfl) ?_
  exact fin_k tt_ok (rs := rs_mem_Mem_none) rfl rfl hK [0, 1] rfl rfl rfl rfl rfl rfl
theorem none_n : Con Try.prog f_mem_Mem_none [.s (.raw (.pointer none))] [] (.ret (.t (.s (.bool true))) []) := by
  intro K hK
  refine enter fn_mem_Mem_none rfl nt_mem_Mem_none rfl rfl (fun φ w0 β0 F => ?_)
  refine c_run tt_ok (ct := []) trivial k_mem_Mem_none [] 60 (by kernel_rfl) ?_
  refine ⟨fun h => (by cases h), fun _ => ⟨fun h => (by cases h), fun _ => ⟨fun h => (by cases h), fun _ => ⟨fun h => (by cases h), fun _ => ⟨fun h => (by cases h), fun _ => ?_⟩⟩⟩⟩⟩
  refine ⟨rfl, ?_⟩
  show WpE _ _ _ _ _
  exact fin_k tt_ok (rs := rs_mem_Mem_none) rfl rfl hK [] rfl rfl rfl rfl rfl rfl
noncomputable abbrev eNone : Ent := .st (conS (P := Try.prog) (f := f_mem_Mem_none) fun cargs σ0 => match cargs, σ0 with
  | [.s (.loc 0 0)], [.blk 65 [.sl 1 0 n c], .own 5 1 c' xs] => some ⟨.ret (.t (.s (.bool ((n : Int) == 0)))) [.blk 65 [.sl 1 0 n c], .own 5 1 c' xs], fun K h => none_c n c c' xs K h⟩
  | _, _ => none)
noncomputable abbrev ctN : CT := [(f_mem_Mem_none, eNone)]
theorem ctN_ok : CTok Try.prog ctN := ⟨con_ok cal_mem_Mem_none _, trivial⟩
theorem span_c (n : Nat) (xs : List Value) (at_ k : Int) (hn : n ≤ 65536) (ha : I32 at_) (hk : 1 ≤ k) (hk' : k ≤ 4294967296) (h0 : 1 ≤ n) : Con Try.prog f_mem_Mem_span [.s (.loc 0 0), .s (.int .i32 at_), .s (.int .i64 k)] [.blk 65 [.sl 1 0 n n], .own 5 1 n xs]
    (.br (spanBad n at_ k) (.ret (.tup [.s (.raw (.slice none 0 0)), .s (.int .i64 4)]) [.blk 65 [.sl 1 0 n n], .own 5 1 n xs])
      (.ret (.tup [.s (.sl 1 (ofAt at_).toNat k.toNat k.toNat), .s (.int .i64 0)]) [.blk 65 [.sl 1 0 n n], .own 5 1 n xs])) := by
  intro K ⟨hK1, hK2⟩
  refine enter fn_mem_Mem_span rfl nt_mem_Mem_span rfl rfl (fun φ w0 β0 F => ?_)
  refine c_run tt_ok ctN_ok k_mem_Mem_span [] 60 (by kernel_rfl) ?_
  unfold I32 at ha
  have e0 : IntKind.i64.wrap (IntKind.i64.wrap at_ - -2147483648) = ofAt at_ := by unfold ofAt; rw [wrap64 (n := at_) (by omega) (by omega), wrap64 (by omega) (by omega)]; omega
  have e1 : IntKind.i64.wrap ((n : Int) - ofAt at_) = n - ofAt at_ := by unfold ofAt; rw [wrap64 (by omega) (by omega)]
  have e2 : (bif decide (IntKind.i64.wrap (IntKind.i64.wrap at_ - -2147483648) ≥ (n : Int)) then true else decide (k > IntKind.i64.wrap ((n : Int) - IntKind.i64.wrap (IntKind.i64.wrap at_ - -2147483648)))) = spanBad n at_ k := by rw [e0, e1]; rfl
  refine ⟨fun h1 => ?_, fun h1 => ⟨fun h2 => ?_, fun h2 => ?_⟩⟩
  · exfalso; simp at h1; omega
  · exact fin_k tt_ok (rs := rs_mem_Mem_span) rfl rfl (hK1 (e2 ▸ h2)) [0, 1] rfl rfl rfl rfl rfl rfl
  · have hb : spanBad n at_ k = false := e2 ▸ h2
    have hi : (0 : Int) ≤ ofAt at_ ∧ ofAt at_ + k ≤ n := by
      unfold spanBad at hb
      by_cases h : ofAt at_ ≥ n
      · simp [h] at hb
      · simp [h] at hb; unfold ofAt at *; omega
    have e3 : IntKind.i64.wrap (IntKind.i64.wrap (IntKind.i64.wrap at_ - -2147483648) + k) = ofAt at_ + k := by rw [e0, wrap64 (by omega) (by omega)]
    refine ⟨(ofAt at_).toNat, (ofAt at_).toNat + k.toNat, (ofAt at_).toNat + k.toNat, ⟨_, _, _, rfl, rfl, rfl, ?_, ?_, ?_⟩, ⟨by omega, by omega, by omega⟩, fun off ho => ?_⟩
    · show _ = _; rw [e0]; omega
    · show _ = _; rw [e3]; omega
    · show _ = _; rw [e3]; omega
    · have ho' := ho (by omega)
      have ho2 : off = (ofAt at_).toNat := by rw [ho']; simp
      subst ho2
      refine fin_k tt_ok (rs := rs_mem_Mem_span) rfl rfl (hK2 hb) [0, 1] ?_ rfl rfl rfl rfl rfl
      rw [show (ofAt at_).toNat + k.toNat - (ofAt at_).toNat = k.toNat by omega]
      rfl
end Go.Proofs

namespace Go.Proofs
open Go Go.Sx
set_option maxRecDepth 10000
theorem andNot3_i32 {v : Int} (h : I32 v) : bits .andNot .i32 v 3 = v - v % 4 := by
  have e : bits .andNot .i32 v 3 = IntKind.i32.wrap ((BitVec.ofInt 32 v &&& ~~~ BitVec.ofInt 32 3).toNat : Int) := rfl
  have hn : ∀ i, i < 32 → (~~~ BitVec.ofInt 32 3).getLsbD i = decide (2 ≤ i) := by decide
  have e1 : BitVec.ofInt 32 v &&& ~~~ BitVec.ofInt 32 3 = (BitVec.ofInt 32 v >>> 2) <<< 2 := by
    apply BitVec.eq_of_getLsbD_eq
    intro i hi
    rw [BitVec.getLsbD_and, hn i hi, BitVec.getLsbD_shiftLeft, BitVec.getLsbD_ushiftRight]
    by_cases h2 : 2 ≤ i
    · have : ¬ i < 2 := by omega
      simp [h2, this, hi, show 2 + (i - 2) = i by omega]
    · have : i < 2 := by omega
      simp [h2, this]
  have e2 : (((BitVec.ofInt 32 v >>> 2) <<< 2).toNat : Int) = v % 4294967296 / 4 * 4 := by
    rw [BitVec.toNat_shiftLeft, BitVec.toNat_ushiftRight, BitVec.toNat_ofInt, Nat.shiftLeft_eq, Nat.shiftRight_eq_div_pow]
    have : ((2 ^ 32 : Nat) : Int) = 4294967296 := rfl
    rw [this]; omega
  rw [e, e1, e2, IntKind.wrap_i32]
  unfold I32 at h; omega
noncomputable abbrev eSpan : Ent := .st (conS (P := Try.prog) (f := f_mem_Mem_span) fun cargs σ0 => match cargs, σ0 with
  | [.s (.loc 0 0), .s (.int .i32 a), .s (.int .i64 k)], [.blk 65 [.sl 1 0 n n'], .own 5 1 c xs] => some ⟨.ask (n' = n ∧ c = n ∧ n ≤ 65536 ∧ I32 a ∧ 1 ≤ k ∧ k ≤ 4294967296 ∧ 1 ≤ n)
      (.br (spanBad n a k) (.ret (.tup [.s (.raw (.slice none 0 0)), .s (.int .i64 4)]) [.blk 65 [.sl 1 0 n n], .own 5 1 n xs])
        (.ret (.tup [.s (.sl 1 (ofAt a).toNat k.toNat k.toNat), .s (.int .i64 0)]) [.blk 65 [.sl 1 0 n n], .own 5 1 n xs])), fun K h => by
      obtain ⟨⟨e1, e2, h1, h2, h3, h4, h5⟩, h6⟩ := h
      subst e1; subst e2
      exact span_c _ xs a k h1 h2 h3 h4 h5 K h6⟩
  | _, _ => none)
noncomputable abbrev ctS : CT := [(f_mem_Mem_span, eSpan)]
theorem ctS_ok : CTok Try.prog ctS := ⟨con_ok cal_mem_Mem_span _, trivial⟩
def wAt (a : Int) : Int := a - a % 4
theorem wAt_i32 {a : Int} (h : I32 a) : I32 (wAt a) := by unfold I32 at *; unfold wAt; omega
theorem word_c (n : Nat) (xs : List Value) (at_ : Int) (hn : n ≤ 65536) (ha : I32 at_) (h0 : 1 ≤ n) : Con Try.prog f_mem_Mem_word [.s (.loc 0 0), .s (.int .i32 at_)] [.blk 65 [.sl 1 0 n n], .own 5 1 n xs]
    (.br (spanBad n (wAt at_) 4) (.ret (.tup [.s (.raw (.slice none 0 0)), .s (.int .i64 4)]) [.blk 65 [.sl 1 0 n n], .own 5 1 n xs])
      (.ret (.tup [.s (.sl 1 (ofAt (wAt at_)).toNat 4 4), .s (.int .i64 0)]) [.blk 65 [.sl 1 0 n n], .own 5 1 n xs])) := by
  intro K ⟨hK1, hK2⟩
  refine enter fn_mem_Mem_word rfl nt_mem_Mem_word rfl rfl (fun φ w0 β0 F => ?_)
  refine c_run tt_ok ctS_ok k_mem_Mem_word [] 60 (by kernel_rfl) ?_
  have e : bits .andNot .i32 at_ 3 = wAt at_ := andNot3_i32 ha
  rw [← e] at hK1 hK2
  refine ⟨⟨rfl, rfl, hn, e ▸ wAt_i32 ha, by decide, by decide, h0⟩, fun h => ?_, fun h => ?_⟩
  · exact fin_k tt_ok (rs := rs_mem_Mem_word) rfl rfl (hK1 h) [0, 1] rfl rfl rfl rfl rfl rfl
  · exact fin_k tt_ok (rs := rs_mem_Mem_word) rfl rfl (hK2 h) [0, 1] rfl rfl rfl rfl rfl rfl
theorem spanBad_i {n : Nat} {a k : Int} (ha : I32 a) (h : spanBad n a k = false) : 0 ≤ ofAt a ∧ ofAt a + k ≤ n ∧ ofAt a < n := by
  unfold spanBad at h
  unfold I32 at ha
  by_cases h' : ofAt a ≥ n
  · simp [h'] at h
  · simp [h'] at h; unfold ofAt at *; omega
theorem or_u32 {a b : Int} {k : Nat} (a0 : 0 ≤ a) (a1 : a < 2 ^ k) (b0 : 0 ≤ b) (hb : a + 2 ^ k * b < 4294967296) : bits .or .u32 a (2 ^ k * b) = a + 2 ^ k * b := by
  have e : bits .or .u32 a (2 ^ k * b) = IntKind.u32.wrap ((BitVec.ofInt 32 a ||| BitVec.ofInt 32 (2 ^ k * b)).toNat : Int) := rfl
  have hp := pow2_pos k
  have hm := Int.mul_nonneg (show (0 : Int) ≤ 2 ^ k by omega) b0
  obtain ⟨A, rfl⟩ : ∃ A : Nat, a = A := ⟨_, (Int.toNat_of_nonneg a0).symm⟩
  obtain ⟨B, rfl⟩ : ∃ B : Nat, b = B := ⟨_, (Int.toNat_of_nonneg b0).symm⟩
  have c : (2 : Int) ^ k * (B : Int) = ((2 ^ k * B : Nat) : Int) := by simp
  rw [c] at hb hm e ⊢
  have a1' : A < 2 ^ k := by have : (A : Int) < ((2 ^ k : Nat) : Int) := by simpa using a1
                             omega
  rw [e, BitVec.ofInt_natCast, BitVec.ofInt_natCast, BitVec.toNat_or, BitVec.toNat_ofNat, BitVec.toNat_ofNat, Nat.mod_eq_of_lt (by omega), Nat.mod_eq_of_lt (by omega), Nat.or_comm, ← Nat.two_pow_add_eq_or_of_lt a1', IntKind.wrap_u32]
  omega
/-- The word at place i. -/
def getW (l : List Int) (i : Nat) : Int := Wd (l.getD i 0 + 256 * l.getD (i + 1) 0 + 65536 * l.getD (i + 2) 0 + 16777216 * l.getD (i + 3) 0)
noncomputable abbrev eWord_ : Ent := .st (conS (P := Try.prog) (f := f_mem_Mem_word) fun cargs σ0 => match cargs, σ0 with
  | [.s (.loc 0 0), .s (.int .i32 a)], [.blk 65 [.sl 1 0 n n'], .own 5 1 c xs] => some ⟨.ask (n' = n ∧ c = n ∧ n ≤ 65536 ∧ I32 a ∧ 1 ≤ n)
      (.br (spanBad n (wAt a) 4) (.ret (.tup [.s (.raw (.slice none 0 0)), .s (.int .i64 4)]) [.blk 65 [.sl 1 0 n n], .own 5 1 n xs])
        (.ret (.tup [.s (.sl 1 (ofAt (wAt a)).toNat 4 4), .s (.int .i64 0)]) [.blk 65 [.sl 1 0 n n], .own 5 1 n xs])), fun K h => by
      obtain ⟨⟨e1, e2, h1, h2, h3⟩, h6⟩ := h
      subst e1; subst e2
      exact word_c _ xs a h1 h2 h3 K h6⟩
  | _, _ => none)
noncomputable abbrev ctW : CT := [(f_mem_Mem_word, eWord_)]
theorem ctW_ok : CTok Try.prog ctW := ⟨con_ok cal_mem_Mem_word _, trivial⟩
theorem Word_c (l : List Int) (at_ : Int) (hn : l.length ≤ 65536) (ha : I32 at_) (h0 : 1 ≤ l.length) (hl : ∀ b ∈ l, 0 ≤ b ∧ b < 256) : Con Try.prog f_mem_Mem_Word [.s (.loc 0 0), .s (.int .i32 at_)] [mBox l.length, mOwn l]
    (.br (spanBad l.length (wAt at_) 4) (.ret (.tup [.s (.int .i32 0), .s (.int .i64 4)]) [mBox l.length, mOwn l])
      (.ret (.tup [.s (.int .i32 (getW l (ofAt (wAt at_)).toNat)), .s (.int .i64 0)]) [mBox l.length, mOwn l])) := by
  intro K ⟨hK1, hK2⟩
  refine enter fn_mem_Mem_Word rfl nt_mem_Mem_Word rfl rfl (fun φ w0 β0 F => ?_)
  refine c_run tt_ok ctW_ok k_mem_Mem_Word [] 60 (by kernel_rfl) ?_
  refine ⟨⟨rfl, rfl, hn, ha, h0⟩, fun h => ⟨fun h2 => ?_, fun h2 => ?_⟩, fun h => ⟨fun h2 => ?_, fun h2 => ?_⟩⟩
  · exact fin_k tt_ok (rs := rs_mem_Mem_Word) rfl rfl (hK1 h) [0, 1] rfl rfl rfl rfl rfl rfl
  · exact absurd h2 (by decide)
  · exact absurd h2 (by decide)
  · have hi := spanBad_i (wAt_i32 ha) h
    generalize hI : (ofAt (wAt at_)).toNat = i at *
    have g : ∀ k, k < 4 → (bytesI l)[i + k * (0 + 1)]? = some (SV.int .u8 (l.getD (i + k) 0)).cv := fun k hk => by
      rw [Nat.zero_add, Nat.mul_one]; exact bytesI_at (by omega)
    have hx : ∀ k, k < 4 → 0 ≤ l.getD (i + k) 0 ∧ l.getD (i + k) 0 < 256 := fun k hk => by
      have : l.getD (i + k) 0 ∈ l := by
        rw [List.getD_eq_getElem?_getD, List.getElem?_eq_getElem (by omega)]; exact List.getElem_mem _
      exact hl _ this
    refine ⟨0, ⟨rfl, by omega, by simp; omega⟩, .int .u8 (l.getD (i + 0) 0), rfl, g 0 (by decide), ?_⟩
    refine ⟨1, ⟨rfl, by omega, by simp; omega⟩, .int .u8 (l.getD (i + 1) 0), rfl, g 1 (by decide), ?_⟩
    refine ⟨2, ⟨rfl, by omega, by simp; omega⟩, .int .u8 (l.getD (i + 2) 0), rfl, g 2 (by decide), ?_⟩
    refine ⟨3, ⟨rfl, by omega, by simp; omega⟩, .int .u8 (l.getD (i + 3) 0), rfl, g 3 (by decide), ?_⟩
    refine fin_k tt_ok (rs := rs_mem_Mem_Word) rfl rfl (hK2 h) [0, 1] (t2 ?_ rfl) rfl rfl rfl rfl rfl
    have h0' := hx 0 (by decide)
    have h1' := hx 1 (by decide)
    have h2' := hx 2 (by decide)
    have h3' := hx 3 (by decide)
    unfold getW
    generalize l.getD (i + 1) 0 = b1 at *
    generalize l.getD (i + 2) 0 = b2 at *
    generalize l.getD (i + 3) 0 = b3 at *
    simp only [Nat.add_zero] at h0' ⊢
    generalize l.getD i 0 = b0 at *
    have e : ∀ {b : Int} {k : Nat}, 0 ≤ b → b < 256 → k ≤ 24 → IntKind.u32.wrap (IntKind.u32.wrap b * 2 ^ min k IntKind.u32.bits) = 2 ^ k * b := fun {b k} hb hb' hk => by
      have e1 : min k IntKind.u32.bits = k := Nat.min_eq_left (Nat.le_trans hk (by decide))
      have e2 : (2 : Int) ^ k ≤ 16777216 := by
        have : (16777216 : Int) = 2 ^ k * 2 ^ (24 - k) := by rw [← pow_split hk]; decide
        have h3 := pow2_pos (24 - k)
        have h4 := pow2_pos k
        have := Int.mul_le_mul_of_nonneg_left (show (1 : Int) ≤ 2 ^ (24 - k) by omega) (show (0 : Int) ≤ 2 ^ k by omega)
        omega
      have h4 := pow2_pos k
      have h5 := Int.mul_nonneg hb (show (0 : Int) ≤ 2 ^ k by omega)
      have h6 := Int.mul_le_mul (show b ≤ 255 by omega) e2 (by omega) (by decide)
      rw [e1, IntKind.wrap_u32, IntKind.wrap_u32, Int.emod_eq_of_lt hb (by omega), Int.emod_eq_of_lt h5 (by omega), Int.mul_comm]
    have e0 : IntKind.u32.wrap b0 = b0 := by rw [IntKind.wrap_u32]; omega
    have p8 : (2 : Int) ^ 8 = 256 := by decide
    have p16 : (2 : Int) ^ 16 = 65536 := by decide
    have p24 : (2 : Int) ^ 24 = 16777216 := by decide
    rw [e0, e h1'.1 h1'.2 (by decide), e h2'.1 h2'.2 (by decide), e h3'.1 h3'.2 (by decide), or_u32 (k := 8) h0'.1 (by rw [p8]; omega) h1'.1 (by rw [p8]; omega),
      or_u32 (k := 16) (by rw [p8]; omega) (by rw [p8, p16]; omega) h2'.1 (by rw [p8, p16]; omega), or_u32 (k := 24) (by rw [p8, p16]; omega) (by rw [p8, p16, p24]; omega) h3'.1 (by rw [p8, p16, p24]; omega), wrapW, p8, p16, p24]
end Go.Proofs

namespace Go.Proofs
open Go Go.Sx
set_option maxRecDepth 10000
def byK (v : Int) (k : Nat) : Int := Uw v / 256 ^ k % 256
def stW (l : List Int) (i : Nat) (v : Int) : Nat → List Int
  | 0 => l
  | k + 1 => setL (stW l i v k) (i + k) [byK v k]
def setW (l : List Int) (i : Nat) (v : Int) : List Int := stW l i v 4
theorem stW_length {l : List Int} {i : Nat} {v : Int} (h : i + 4 ≤ l.length) : ∀ k, k ≤ 4 → (stW l i v k).length = l.length
  | 0, _ => rfl
  | k + 1, hk => by
    have ih := stW_length (v := v) h k (by omega)
    unfold stW
    rw [setL_length (by rw [ih]; simp; omega), ih]
theorem byK_prog (v : Int) {k : Nat} (hk : k ≤ 3) : IntKind.u8.wrap ((IntKind.u32.wrap v).fdiv (2 ^ min (IntKind.i64.wrap (8 * (k : Int))).toNat IntKind.u32.bits)) = byK v k := by
  have e1 : min (IntKind.i64.wrap (8 * (k : Int))).toNat IntKind.u32.bits = 8 * k := by
    rw [wrap64 (by omega) (by omega)]
    show min _ 32 = _
    omega
  have e2 : (2 : Int) ^ (8 * k) = 256 ^ k := by rw [Int.pow_mul]; rfl
  have hp : (0 : Int) ≤ 256 ^ k := by rw [← e2]; have := pow2_pos (8 * k); omega
  rw [e1, e2, Int.fdiv_eq_ediv_of_nonneg _ hp, IntKind.wrap_u8, IntKind.wrap_u32]; rfl
theorem SetWord_c (l : List Int) (at_ v : Int) (hn : l.length ≤ 65536) (ha : I32 at_) (h0 : 1 ≤ l.length) : Con Try.prog f_mem_Mem_SetWord [.s (.loc 0 0), .s (.int .i32 at_), .s (.int .i32 v)] [mBox l.length, mOwn l]
    (.br (spanBad l.length (wAt at_) 4) (.ret (.t (.s (.int .i64 4))) [mBox l.length, mOwn l])
      (.ret (.t (.s (.int .i64 0))) [mBox l.length, .own 5 1 l.length (bytesI (setW l (ofAt (wAt at_)).toNat v))])) := by
  intro K ⟨hK1, hK2⟩
  refine enter fn_mem_Mem_SetWord rfl nt_mem_Mem_SetWord rfl rfl (fun φ w0 β0 F => ?_)
  refine c_run tt_ok ctW_ok k_mem_Mem_SetWord [] 60 (by kernel_rfl) ?_
  refine ⟨⟨rfl, rfl, hn, ha, h0⟩, fun h => ?_, fun h => ?_⟩
  · show WpC _ _ _ _ _
    refine c_unroll 1 ?_
    refine c_run' tt_ok ctW_ok k_mem_Mem_SetWord [] 60 (by kernel_rfl) (by kernel_rfl) ?_
    refine ⟨fun h2 => ?_, fun h2 => ?_⟩
    · exact absurd h2 (by decide)
    · exact fin_k tt_ok (rs := rs_mem_Mem_SetWord) rfl rfl (hK1 h) [0, 1] rfl rfl rfl rfl rfl rfl
  · have hi := spanBad_i (wAt_i32 ha) h
    generalize hI : (ofAt (wAt at_)).toNat = i at *
    show WpC _ _ _ _ _
    refine c_loop (α := Nat) (fun k => k ≤ 4) (fun k => 4 - k)
      (fun k => [(2, .t (.s (.int .i32 v)), none), (7, .t (.s (.sl 1 i 4 4)), none), (8, .t (.s (.int .i64 0)), none), (17, .t (.s (.int .i64 4)), none), (18, .t (.s (.int .i64 (k : Int))), none)])
      (fun k => [mBox l.length, .own 5 1 l.length (bytesI (stW l i v k))]) 0 (Nat.zero_le _) ?_ ?_
    · exact into [0, 1] ⟨⟨_, rfl, rfl⟩, ⟨_, rfl, rfl⟩, ⟨_, rfl, rfl⟩, ⟨_, rfl, rfl⟩, ⟨_, rfl, rfl⟩, trivial⟩ ⟨_, rfl, rfl⟩ rfl rfl rfl rfl
    · intro k hk
      have hlen := stW_length (l := l) (i := i) (v := v) (by omega) k hk
      refine c_run' tt_ok ctW_ok k_mem_Mem_SetWord [] 60 (by kernel_rfl) (by kernel_rfl) ?_
      refine ⟨fun h2 => ?_, fun h2 => ?_⟩
      · have h2' := of_decide_eq_true h2
        refine ⟨?_, k, ⟨rfl, by omega, by simp; omega⟩, by show i + k * (0 + 1) + 1 ≤ _; simp; omega, ?_⟩
        · show 0 ≤ IntKind.i64.wrap (8 * (k : Int)); rw [wrap64 (by omega) (by omega)]; omega
        · refine e_again (k + 1) (show k + 1 ≤ 4 by omega) (show 4 - (k + 1) < 4 - k by omega) (into [0, 1] ⟨⟨_, rfl, rfl⟩, ⟨_, rfl, rfl⟩, ⟨_, rfl, rfl⟩, ⟨_, rfl, rfl⟩, ⟨_, rfl, fvi (wrapSucc (by omega))⟩, trivial⟩ ⟨_, rfl, ?_⟩ rfl rfl rfl rfl)
          show [mBox l.length, Ch.own 5 1 l.length (setV (bytesI (stW l i v k)) (i + k * (0 + 1)) (bytesI [IntKind.u8.wrap ((IntKind.u32.wrap v).fdiv (2 ^ min (IntKind.i64.wrap (8 * (k : Int))).toNat IntKind.u32.bits))]))] = _
          rw [byK_prog v (by omega), setV_bytesI, Nat.zero_add, Nat.mul_one]; rfl
      · have hk4 : k = 4 := by have := of_decide_eq_false h2; omega
        subst hk4
        exact fin_k tt_ok (rs := rs_mem_Mem_SetWord) rfl rfl (hK2 h) [0, 1] rfl rfl rfl rfl rfl rfl
end Go.Proofs

namespace Go.Proofs
open Go Go.Sx
set_option maxRecDepth 10000
noncomputable abbrev ctM : CT := [(f_mem_may, .st (conS (P := Try.prog) (f := f_mem_may) fun cargs σ0 => match cargs, σ0 with
  | [.s (.int .i64 n)], [] => some ⟨.ret (.t (.s (.bool (mayM n)))) [], fun K h => may_c n K h⟩
  | _, _ => none))]
theorem ctM_ok : CTok Try.prog ctM := ⟨con_ok cal_mem_may _, trivial⟩
theorem mayM_nat {n : Int} (h : mayM n = true) : ∃ k : Nat, n = k ∧ 1024 ≤ k ∧ k ≤ 65536 := by
  unfold mayM at h
  by_cases h1 : n ≥ 1024 <;> by_cases h2 : n ≤ 65536 <;> simp [h1, h2] at h
  exact ⟨n.toNat, by omega, by omega, by omega⟩
theorem New_c (n : Int) : Con Try.prog f_mem_New [.s (.int .i64 n)] [] (.br (mayM n)
    (.ret (.tup [.s (.loc 0 0), .s (.int .i64 0)]) [mBox n.toNat, .own 5 1 n.toNat (bytesI (List.replicate n.toNat 0))])
    (.ret (.tup [.s (.raw (.pointer none)), .s (.int .i64 2)]) [])) := by
  intro K ⟨hK1, hK2⟩
  refine enter fn_mem_New rfl nt_mem_New rfl rfl (fun φ w0 β0 F => ?_)
  refine c_run tt_ok ctM_ok k_mem_New [] 60 (by kernel_rfl) ?_
  refine ⟨fun h => ?_, fun h => ?_⟩
  · have hb : mayM n = false := by simpa using h
    exact fin_k tt_ok (rs := rs_mem_New) rfl rfl (hK2 hb) [] rfl rfl rfl rfl rfl rfl
  · have hb : mayM n = true := by simpa using h
    obtain ⟨k, rfl, h1, h2⟩ := mayM_nat hb
    refine ⟨k, ⟨rfl, rfl, by simp only [maxLen]; omega, by omega⟩, ?_⟩
    refine fin_k tt_ok (rs := rs_mem_New) rfl rfl (hK1 hb) [1, 0] rfl ?_ rfl rfl rfl rfl
    have e : bytesI (List.replicate k 0) = List.replicate k (Value.int .u8 0) := by simp [bytesI]
    rw [Int.toNat_natCast, e]; rfl
theorem Size_c (n c c' : Nat) (xs : List Value) : Con Try.prog f_mem_Mem_Size [.s (.loc 0 0)] [.blk 65 [.sl 1 0 n c], .own 5 1 c' xs] (.ret (.t (.s (.int .i64 (n : Int)))) [.blk 65 [.sl 1 0 n c], .own 5 1 c' xs]) := by
  intro K hK
  refine enter fn_mem_Mem_Size rfl nt_mem_Mem_Size rfl rfl (fun φ w0 β0 F => ?_)
  refine c_run tt_ok ctN_ok k_mem_Mem_Size [] 60 (by kernel_rfl) ?_
  refine ⟨fun h => ?_, fun h => ?_⟩
  · refine fin_k tt_ok (rs := rs_mem_Mem_Size) rfl rfl hK [0, 1] (t1 ?_) rfl rfl rfl rfl rfl
    simpa using h.symm
  · exact fin_k tt_ok (rs := rs_mem_Mem_Size) rfl rfl hK [0, 1] rfl rfl rfl rfl rfl rfl
theorem copy_all (l : List Int) (zs : List Value) (h : zs.length = l.length) : setV zs 0 (seg (bytesI l) 0 l.length) = bytesI l := by
  rw [seg_bytesI, List.drop_zero, List.take_of_length_le (by omega)]
  unfold setV
  rw [List.take_zero, List.nil_append, List.drop_eq_nil_of_le (by simp; omega), List.append_nil]
theorem copy_full (q : List Int) (zs : List Value) (h : zs.length = q.length) : setV zs 0 (bytesI q) = bytesI q := by
  unfold setV
  rw [List.take_zero, List.nil_append, List.drop_eq_nil_of_le (by simp; omega), List.append_nil]
theorem From_c (l : List Int) (cap : Nat) : Con Try.prog f_mem_From [.s (.sl 0 0 l.length cap)] [.view (bytesI l)] (.br (mayM l.length)
    (.ret (.tup [.s (.loc 1 0), .s (.int .i64 0)]) [.view (bytesI l), .blk 65 [.sl 2 0 l.length l.length], mOwn l])
    (.ret (.tup [.s (.raw (.pointer none)), .s (.int .i64 2)]) [.view (bytesI l)])) := by
  intro K ⟨hK1, hK2⟩
  refine enter fn_mem_From rfl nt_mem_From rfl rfl (fun φ w0 β0 F => ?_)
  refine c_run tt_ok ctM_ok k_mem_From [] 60 (by kernel_rfl) ?_
  refine ⟨fun h => ?_, fun h => ?_⟩
  · have hb : mayM l.length = false := by simpa using h
    exact fin_k tt_ok (rs := rs_mem_From) rfl rfl (hK2 hb) [0] rfl rfl rfl rfl rfl rfl
  · have hb : mayM l.length = true := by simpa using h
    obtain ⟨k, e, h1, h2⟩ := mayM_nat hb
    refine ⟨l.length, ⟨rfl, rfl, by simp only [maxLen]; omega, by omega⟩, ?_⟩
    refine ⟨l.length, ⟨by simp, by simp, by simp, by rw [seg_bytesI]; exact bytesI_one _⟩, ?_⟩
    refine fin_k tt_ok (rs := rs_mem_From) rfl rfl (hK1 hb) [0, 2, 1] rfl ?_ rfl rfl rfl rfl
    show pickL [Ch.view (bytesI l), Ch.own 5 1 l.length (setV (List.replicate l.length (Value.int .u8 0)) 0 (seg (bytesI l) 0 l.length)), Ch.blk 65 [SV.sl 1 0 l.length l.length]] [0, 2, 1] = _
    rw [copy_all l _ (by simp)]; rfl
theorem Bytes_c (l : List Int) (hn : l.length ≤ 65536) (h0 : 1 ≤ l.length) : Con Try.prog f_mem_Mem_Bytes [.s (.loc 0 0)] [mBox l.length, mOwn l]
    (.ret (.t (.s (.sl 2 0 l.length l.length))) [mBox l.length, mOwn l, mOwn l]) := by
  intro K hK
  refine enter fn_mem_Mem_Bytes rfl nt_mem_Mem_Bytes rfl rfl (fun φ w0 β0 F => ?_)
  refine c_run tt_ok ctN_ok k_mem_Mem_Bytes [] 60 (by kernel_rfl) ?_
  refine ⟨fun h => ?_, fun h => ?_⟩
  · simp at h; subst h; simp at h0
  · refine ⟨l.length, ⟨rfl, rfl, by simp only [maxLen]; omega, by omega⟩, ?_⟩
    refine ⟨l.length, ⟨by simp, by simp, by simp, ?_⟩, ?_⟩
    · rw [seg_bytesI]; exact bytesI_one _
    · refine fin_k tt_ok (rs := rs_mem_Mem_Bytes) rfl rfl hK [0, 1, 2] rfl ?_ rfl rfl rfl rfl
      show pickL [mBox l.length, mOwn l, Ch.own 5 1 l.length (setV (List.replicate l.length (Value.int .u8 0)) 0 (seg (bytesI l) 0 l.length))] [0, 1, 2] = _
      rw [copy_all l _ (by simp)]; rfl
noncomputable abbrev ctR : CT := [(f_mem_Mem_none, eNone), (f_mem_Mem_span, eSpan)]
theorem ctR_ok : CTok Try.prog ctR := ⟨con_ok cal_mem_Mem_none _, con_ok cal_mem_Mem_span _, trivial⟩
end Go.Proofs

namespace Go.Proofs
open Go Go.Sx
set_option maxRecDepth 10000
/-- The reference's functions. -/
theorem Index_c (a : Int) (ha : I32 a) : Con Try.prog f_r03_Index [.s (.int .i32 a)] [] (.ret (.t (.s (.int .i64 (ofAt a)))) []) := by
  intro K hK
  refine enter fn_r03_Index rfl nt_r03_Index rfl rfl (fun φ w0 β0 F => ?_)
  refine c_run tt_ok (ct := []) trivial k_r03_Index [] 60 (by kernel_rfl) ?_
  unfold I32 at ha
  exact fin_k tt_ok (rs := rs_r03_Index) rfl rfl hK [] (t1 (by rw [wrap64 (n := a) (by omega) (by omega), wrap64 (by omega) (by omega)]; rfl)) rfl rfl rfl rfl rfl
def spIndex : List TV → Option (Prop × FV)
  | [.s (.int .i32 a)] => some (I32 a, .t (.s (.int .i64 (ofAt a))))
  | _ => none
theorem ceIndex : CEok Try.prog f_r03_Index spIndex := ⟨cal_r03_Index, fun args p v h hp => by
  unfold spIndex at h; split at h
  · cases h; exact (Index_c _ hp).pure
  · cases h⟩
def liesB (n a k : Int) : Bool := bif bif decide (k ≥ 0) then decide (ofAt a < n) else false then decide (k ≤ n - ofAt a) else false
theorem lies_span (n : Nat) (a k : Int) (hk : 0 ≤ k) : liesB n a k = !spanBad n a k := by
  unfold liesB spanBad
  by_cases h1 : ofAt a < n <;> by_cases h2 : k ≤ n - ofAt a <;> simp [hk, h1, h2] <;> omega
noncomputable abbrev ctI : CT := [(f_r03_Index, .pure spIndex)]
theorem ctI_ok : CTok Try.prog ctI := ⟨ceIndex, trivial⟩
theorem Lies_c (n a k : Int) (h0 : 0 ≤ n) (hn : n ≤ 4294967296) (ha : I32 a) : Con Try.prog f_r03_Lies [.s (.int .i64 n), .s (.int .i32 a), .s (.int .i64 k)] [] (.ret (.t (.s (.bool (liesB n a k)))) []) := by
  intro K hK
  refine enter fn_r03_Lies rfl nt_r03_Lies rfl rfl (fun φ w0 β0 F => ?_)
  refine c_run tt_ok ctI_ok k_r03_Lies [] 60 (by kernel_rfl) ?_
  refine ⟨ha, ?_⟩
  refine fin_k tt_ok (rs := rs_r03_Lies) rfl rfl hK [] (t1b ?_) rfl rfl rfl rfl rfl
  unfold I32 at ha
  rw [wrap64 (n := n - ofAt a) (by unfold ofAt; omega) (by unfold ofAt; omega)]; rfl
def spLies : List TV → Option (Prop × FV)
  | [.s (.int .i64 n), .s (.int .i32 a), .s (.int .i64 k)] => some (0 ≤ n ∧ n ≤ 4294967296 ∧ I32 a, .t (.s (.bool (liesB n a k))))
  | _ => none
theorem ceLies : CEok Try.prog f_r03_Lies spLies := ⟨cal_r03_Lies, fun args p v h hp => by
  unfold spLies at h; split at h
  · cases h; exact (Lies_c _ _ _ hp.1 hp.2.1 hp.2.2).pure
  · cases h⟩
noncomputable abbrev ctJ : CT := [(f_r03_Index, .pure spIndex), (f_r03_Lies, .pure spLies)]
theorem ctJ_ok : CTok Try.prog ctJ := ⟨ceIndex, ceLies, trivial⟩
end Go.Proofs

namespace Go.Proofs
open Go Go.Sx
set_option maxRecDepth 10000
theorem tmod4 (n : Int) : (0 ≤ n → n.tmod 4 = n % 4) ∧ (n < 0 → n.tmod 4 = -((-n) % 4)) := by
  refine ⟨fun h => Int.tmod_eq_emod_of_nonneg h, fun h => ?_⟩
  have : n = -(-n) := by omega
  rw [this, Int.neg_tmod, Int.tmod_eq_emod_of_nonneg (by omega), Int.neg_neg]
theorem RWord_c (l : List Int) (cap : Nat) (a : Int) (hn : l.length ≤ 65536) (h4 : l.length % 4 = 0) (ha : I32 a) (hl : ∀ b ∈ l, 0 ≤ b ∧ b < 256) : Con Try.prog f_r03_Word [.s (.sl 0 0 l.length cap), .s (.int .i32 a)] [.view (bytesI l)]
    (.br (liesB l.length a 1) (.ret (.tup [.s (.int .i32 (getW l (ofAt (wAt a)).toNat)), .s (.int .i64 0)]) [.view (bytesI l)])
      (.ret (.tup [.s (.int .i32 0), .s (.int .i64 4)]) [.view (bytesI l)])) := by
  intro K ⟨hK1, hK2⟩
  refine enter fn_r03_Word rfl nt_r03_Word rfl rfl (fun φ w0 β0 F => ?_)
  refine c_run tt_ok ctJ_ok k_r03_Word [] 60 (by kernel_rfl) ?_
  refine ⟨⟨by omega, by omega, ha⟩, fun h => ?_, fun h => ?_⟩
  · exact fin_k tt_ok (rs := rs_r03_Word) rfl rfl (hK2 (by simpa using h)) [0] rfl rfl rfl rfl rfl rfl
  · have hb : liesB l.length a 1 = true := by simpa using h
    have hi := spanBad_i ha (k := 1) (n := l.length) (by have := lies_span l.length a 1 (by decide); rw [hb] at this; simpa using this.symm)
    have ei : IntKind.i64.wrap (ofAt a - (ofAt a).tmod 4) = ofAt (wAt a) := by
      rw [(tmod4 _).1 hi.1, wrap64 (by omega) (by omega)]; unfold ofAt wAt; omega
    have hw : 0 ≤ ofAt (wAt a) ∧ ofAt (wAt a) + 4 ≤ l.length := by unfold ofAt wAt at *; omega
    generalize hI : (ofAt (wAt a)).toNat = i at *
    have g : ∀ k, k < 4 → (bytesI l)[0 + (i + k) * (0 + 1)]? = some (SV.int .u8 (l.getD (i + k) 0)).cv := fun k hk => by
      rw [Nat.zero_add, Nat.zero_add, Nat.mul_one]; exact bytesI_at (by omega)
    refine ⟨ha, i + 0, ⟨by rw [ei]; omega, by omega, by simp; omega⟩, .int .u8 (l.getD (i + 0) 0), rfl, g 0 (by decide), ?_⟩
    refine ⟨i + 1, ⟨by rw [ei, wrap64 (by omega) (by omega)]; omega, by omega, by simp; omega⟩, .int .u8 (l.getD (i + 1) 0), rfl, g 1 (by decide), ?_⟩
    refine ⟨i + 2, ⟨by rw [ei, wrap64 (by omega) (by omega)]; omega, by omega, by simp; omega⟩, .int .u8 (l.getD (i + 2) 0), rfl, g 2 (by decide), ?_⟩
    refine ⟨i + 3, ⟨by rw [ei, wrap64 (by omega) (by omega)]; omega, by omega, by simp; omega⟩, .int .u8 (l.getD (i + 3) 0), rfl, g 3 (by decide), ?_⟩
    refine fin_k tt_ok (rs := rs_r03_Word) rfl rfl (hK1 hb) [0] (t2 ?_ rfl) rfl rfl rfl rfl rfl
    have hx : ∀ k, k < 4 → 0 ≤ l.getD (i + k) 0 ∧ l.getD (i + k) 0 < 256 := fun k hk => by
      have : l.getD (i + k) 0 ∈ l := by
        rw [List.getD_eq_getElem?_getD, List.getElem?_eq_getElem (by omega)]; exact List.getElem_mem _
      exact hl _ this
    have h0' := hx 0 (by decide)
    have h1' := hx 1 (by decide)
    have h2' := hx 2 (by decide)
    have h3' := hx 3 (by decide)
    unfold getW
    generalize l.getD (i + 1) 0 = b1 at *
    generalize l.getD (i + 2) 0 = b2 at *
    generalize l.getD (i + 3) 0 = b3 at *
    simp only [Nat.add_zero] at h0' ⊢
    generalize l.getD i 0 = b0 at *
    rw [wrapW]
    simp only [IntKind.wrap_u32]
    unfold Wd; omega
end Go.Proofs

namespace Go.Proofs
open Go Go.Sx
set_option maxRecDepth 10000
theorem Four_c (v : Int) : Con Try.prog f_r03_Four [.s (.int .i32 v)] [] (.ret (.t (.s (.sl 0 0 4 4))) [.own 5 1 4 (bytesI [byK v 0, byK v 1, byK v 2, byK v 3])]) := by
  intro K hK
  refine enter fn_r03_Four rfl nt_r03_Four rfl rfl (fun φ w0 β0 F => ?_)
  refine c_run tt_ok (ct := []) trivial k_r03_Four [] 60 (by kernel_rfl) ?_
  refine fin_k tt_ok (rs := rs_r03_Four) rfl rfl hK [0] rfl ?_ rfl rfl rfl rfl
  have e0 : IntKind.u8.wrap (IntKind.u32.wrap v) = byK v 0 := by rw [IntKind.wrap_u8, IntKind.wrap_u32]; unfold byK Uw; omega
  have e : ∀ (k : Nat) (q : Int), 1 ≤ q → q = 256 ^ k → IntKind.u8.wrap (IntKind.u32.wrap ((IntKind.u32.wrap v).tdiv q)) = byK v k := fun k q hq1 hq => by
    rw [IntKind.wrap_u8, IntKind.wrap_u32, IntKind.wrap_u32, Int.tdiv_eq_ediv_of_nonneg (by omega), hq]
    have h1 : 0 ≤ Uw v / q := Int.ediv_nonneg (Uw_lo v) (by omega)
    have h2 : Uw v / q ≤ Uw v := Int.ediv_le_self _ (Uw_lo v)
    have h3 := Uw_hi v
    rw [hq] at h1 h2
    show Uw v / 256 ^ k % 4294967296 % 256 = Uw v / 256 ^ k % 256
    omega
  rw [e0, e 1 256 (by decide) (by decide), e 2 65536 (by decide) (by decide), e 3 16777216 (by decide) (by decide)]; rfl
end Go.Proofs

namespace Go.Proofs
open Go Go.Sx
set_option maxRecDepth 10000
theorem setL_get {l : List Int} {i j : Nat} {b : Int} (h : i < l.length) : (setL l i [b]).getD j 0 = if j = i then b else l.getD j 0 := by
  unfold setL
  simp only [List.getD_eq_getElem?_getD]
  by_cases h1 : j < i
  · rw [List.append_assoc, List.getElem?_append_left (by simp; omega), List.getElem?_take_of_lt h1, if_neg (by omega)]
  · by_cases h2 : j = i
    · subst h2
      rw [List.append_assoc, List.getElem?_append_right (by simp; omega)]
      simp [show min j l.length = j by omega]
    · rw [List.getElem?_append_right (by simp; omega), if_neg h2]
      simp only [List.length_append, List.length_take, List.length_cons, List.length_nil, List.getElem?_drop]
      congr 2
      omega
theorem stW_get {l : List Int} {i : Nat} {v : Int} (h : i + 4 ≤ l.length) : ∀ k, k ≤ 4 → ∀ j, (stW l i v k).getD j 0 = if i ≤ j ∧ j < i + k then byK v (j - i) else l.getD j 0
  | 0, _, j => by rw [if_neg (by omega)]; rfl
  | k + 1, hk, j => by
    unfold stW
    rw [setL_get (by rw [stW_length h k (by omega)]; omega), stW_get h k (by omega) j]
    by_cases h1 : j = i + k
    · subst h1; rw [if_pos rfl, if_pos (by omega)]; congr 1; omega
    · rw [if_neg h1]
      by_cases h2 : i ≤ j ∧ j < i + k
      · rw [if_pos h2, if_pos (by omega)]
      · rw [if_neg h2, if_neg (by omega)]
theorem byK_range (v : Int) (k : Nat) : 0 ≤ byK v k ∧ byK v k < 256 := by unfold byK; omega
theorem getW_setW {l : List Int} {i : Nat} {v : Int} (h : i + 4 ≤ l.length) (hv : I32 v) : getW (setW l i v) i = v := by
  unfold getW setW
  rw [stW_get h 4 (by decide), stW_get h 4 (by decide), stW_get h 4 (by decide), stW_get h 4 (by decide)]
  rw [if_pos (by omega), if_pos (by omega), if_pos (by omega), if_pos (by omega)]
  rw [show i - i = 0 by omega, show i + 1 - i = 1 by omega, show i + 2 - i = 2 by omega, show i + 3 - i = 3 by omega]
  have e : Uw v = byK v 0 + 256 * byK v 1 + 65536 * byK v 2 + 16777216 * byK v 3 := by
    have := Uw_lo v
    have := Uw_hi v
    unfold byK
    have p0 : (256 : Int) ^ 0 = 1 := rfl
    have p1 : (256 : Int) ^ 1 = 256 := rfl
    have p2 : (256 : Int) ^ 2 = 65536 := rfl
    have p3 : (256 : Int) ^ 3 = 16777216 := rfl
    rw [p0, p1, p2, p3]; omega
  rw [← e]
  rw [Wd_Uw, Wd_of hv]
theorem setW_bytes {l : List Int} {i : Nat} {v : Int} (h : i + 4 ≤ l.length) (hl : ∀ b ∈ l, 0 ≤ b ∧ b < 256) : ∀ b ∈ setW l i v, 0 ≤ b ∧ b < 256 := by
  intro b hb
  obtain ⟨j, hj, rfl⟩ := List.mem_iff_getElem.1 hb
  have hlen : (setW l i v).length = l.length := stW_length h 4 (by decide)
  have e : (setW l i v)[j] = (setW l i v).getD j 0 := by simp [hj]
  rw [e]
  show 0 ≤ (stW l i v 4).getD j 0 ∧ _
  unfold setW
  rw [stW_get h 4 (by decide)]
  split
  · exact byK_range _ _
  · have hj' : j < l.length := by omega
    have : l.getD j 0 = l[j] := by simp [hj']
    rw [this]; exact hl _ (List.getElem_mem _)
end Go.Proofs

namespace Go.Proofs
open Go Go.Sx
set_option maxRecDepth 10000
structure Ram where
  l : List Int
  lo : 1024 ≤ l.length
  hi : l.length ≤ 65536
  al : l.length % 4 = 0
  byt : ∀ b ∈ l, 0 ≤ b ∧ b < 256
theorem Ram.ext {m m' : Ram} (h : m.l = m'.l) : m = m' := by cases m; cases m'; cases h; rfl
def wBad (m : Ram) (a : Int) : Bool := spanBad m.l.length (wAt a) 4
theorem wBad_nat {m : Ram} {a : Int} (h : wBad m a = false) : (ofAt (wAt a)).toNat + 4 ≤ m.l.length := by
  unfold wBad spanBad at h
  have := m.lo
  by_cases h' : ofAt (wAt a) ≥ m.l.length
  · simp [h'] at h
  · simp [h'] at h; omega
def Ram.word (m : Ram) (a : Int) : Int := bif wBad m a then 0 else getW m.l (ofAt (wAt a)).toNat
def Ram.err (m : Ram) (a : Int) : Int := bif wBad m a then 4 else 0
def Ram.set (m : Ram) (a v : Int) : Ram := match h : wBad m a with
  | true => m
  | false => ⟨setW m.l (ofAt (wAt a)).toNat v, by rw [show (setW m.l (ofAt (wAt a)).toNat v).length = m.l.length from stW_length (wBad_nat h) 4 (by decide)]; exact m.lo,
      by rw [show (setW m.l (ofAt (wAt a)).toNat v).length = m.l.length from stW_length (wBad_nat h) 4 (by decide)]; exact m.hi,
      by rw [show (setW m.l (ofAt (wAt a)).toNat v).length = m.l.length from stW_length (wBad_nat h) 4 (by decide)]; exact m.al, setW_bytes (wBad_nat h) m.byt⟩
theorem set_bad {m : Ram} {a : Int} (h : wBad m a = true) (v : Int) : m.set a v = m := by unfold Ram.set; split <;> simp_all
theorem set_ok {m : Ram} {a : Int} (h : wBad m a = false) (v : Int) : (m.set a v).l = setW m.l (ofAt (wAt a)).toNat v := by unfold Ram.set; split <;> simp_all
theorem set_len (m : Ram) (a v : Int) : (m.set a v).l.length = m.l.length := by
  cases h : wBad m a with
  | true => rw [set_bad h]
  | false => rw [set_ok h]; exact stW_length (wBad_nat h) 4 (by decide)
theorem set_wBad (m : Ram) (a v b : Int) : wBad (m.set a v) b = wBad m b := by unfold wBad; rw [set_len]
theorem set_err (m : Ram) (a v b : Int) : (m.set a v).err b = m.err b := by unfold Ram.err; rw [set_wBad]
theorem I32_Wd (n : Int) : I32 (Wd n) := by unfold I32 Wd; omega
theorem I32_wrap (n : Int) : I32 (IntKind.i32.wrap n) := by rw [wrapW]; exact I32_Wd n
theorem word_I32 (m : Ram) (a : Int) : I32 (m.word a) := by
  unfold Ram.word; cases wBad m a
  · exact I32_Wd _
  · unfold I32; simp
theorem Word_t (m : Ram) (a : Int) (ha : I32 a) : Con Try.prog f_mem_Mem_Word [.s (.loc 0 0), .s (.int .i32 a)] [mBox m.l.length, mOwn m.l]
    (.ret (.tup [.s (.int .i32 (m.word a)), .s (.int .i64 (m.err a))]) [mBox m.l.length, mOwn m.l]) := by
  intro K hK
  have h0 := m.lo
  replace hK : K _ _ := hK
  refine Word_c m.l a m.hi ha (by omega) m.byt K ⟨fun h => ?_, fun h => ?_⟩ <;> (show K _ _) <;> simpa [Ram.word, Ram.err, wBad, h] using hK
theorem SetWord_t (m : Ram) (a v : Int) (ha : I32 a) : Con Try.prog f_mem_Mem_SetWord [.s (.loc 0 0), .s (.int .i32 a), .s (.int .i32 v)] [mBox m.l.length, mOwn m.l]
    (.ret (.t (.s (.int .i64 (m.err a)))) [mBox (m.set a v).l.length, mOwn (m.set a v).l]) := by
  intro K hK
  have h0 := m.lo
  have hl := set_len m a v
  replace hK : K _ _ := hK
  refine SetWord_c m.l a v m.hi ha (by omega) K ⟨fun h => ?_, fun h => ?_⟩
  · have : wBad m a = true := h
    rw [set_bad this] at hK
    show K _ _
    simpa [Ram.err, this] using hK
  · have h' : wBad m a = false := h
    rw [hl] at hK
    have e := set_ok h' v
    rw [mOwn, hl, e] at hK
    show K _ _
    simpa [Ram.err, h'] using hK
noncomputable abbrev eWordT : Ent := .st (conS (P := Try.prog) (f := f_mem_Mem_Word) fun cargs σ0 => match cargs, σ0 with
  | [.s (.loc 0 0), .s (.int .i32 a)], [.blk 65 [.sl 1 0 n n'], .own 5 1 c xs] => some ⟨.ex Ram fun m => .ask (n = m.l.length ∧ n' = m.l.length ∧ c = m.l.length ∧ xs = bytesI m.l ∧ I32 a)
      (.ret (.tup [.s (.int .i32 (m.word a)), .s (.int .i64 (m.err a))]) [mBox m.l.length, mOwn m.l]), fun K h => by
      obtain ⟨m, ⟨e1, e2, e3, e4, h1⟩, h⟩ := h
      subst e1; subst e2; subst e3; subst e4
      exact Word_t m a h1 K h⟩
  | _, _ => none)
noncomputable abbrev eSetWordT : Ent := .st (conS (P := Try.prog) (f := f_mem_Mem_SetWord) fun cargs σ0 => match cargs, σ0 with
  | [.s (.loc 0 0), .s (.int .i32 a), .s (.int .i32 v)], [.blk 65 [.sl 1 0 n n'], .own 5 1 c xs] => some ⟨.ex Ram fun m => .ask (n = m.l.length ∧ n' = m.l.length ∧ c = m.l.length ∧ xs = bytesI m.l ∧ I32 a)
      (.ret (.t (.s (.int .i64 (m.err a)))) [mBox (m.set a v).l.length, mOwn (m.set a v).l]), fun K h => by
      obtain ⟨m, ⟨e1, e2, e3, e4, h1⟩, h⟩ := h
      subst e1; subst e2; subst e3; subst e4
      exact SetWord_t m a v h1 K h⟩
  | _, _ => none)
noncomputable abbrev eSizeT : Ent := .st (conS (P := Try.prog) (f := f_mem_Mem_Size) fun cargs σ0 => match cargs, σ0 with
  | [.s (.loc 0 0)], [.blk 65 [.sl 1 0 n n'], .own 5 1 c xs] => some ⟨.ret (.t (.s (.int .i64 (n : Int)))) [.blk 65 [.sl 1 0 n n'], .own 5 1 c xs], fun K h => Size_c n n' c xs K h⟩
  | _, _ => none)
end Go.Proofs

namespace Go.Proofs
open Go Go.Sx
set_option maxRecDepth 10000
theorem one_seg {ys : List Value} {a b : Nat} (h : ∀ u ∈ ys, u.oneCell' = true) : ∀ u ∈ seg ys a b, u.oneCell' = true := fun u hu => h u (List.mem_of_mem_drop (List.mem_of_mem_take hu))
theorem put_c (l x : List Int) (cap cb : Nat) (i : Nat) (hi : i + x.length ≤ l.length) (hn : l.length ≤ 65536) (hc : l.length ≤ cap) : Con Try.prog f_r03_put [.s (.sl 0 0 l.length cap), .s (.int .i64 (i : Int)), .s (.sl 1 0 x.length cb)] [.view (bytesI l), .own 5 1 cb (bytesI x)]
    (.all Nat (fun c => l.length ≤ c) fun c => .ret (.t (.s (.sl 2 0 l.length c))) [.view (bytesI l), .view (bytesI x), .own 5 1 c (bytesI (setL l i x))]) := by
  intro K hK
  refine enter fn_r03_put rfl nt_r03_put rfl rfl (fun φ w0 β0 F => ?_)
  refine c_freeze 1 rfl rfl ?_
  refine c_run tt_ok (ct := []) trivial k_r03_put [] 60 (by kernel_rfl) ?_
  refine ⟨0, i, ⟨_, _, rfl, rfl, rfl, rfl⟩, ⟨by omega, by omega⟩, ?_⟩
  refine ⟨⟨by simp [seg]; omega, one_seg (one_seg (bytesI_one _)), by simp only [maxLen]; omega, by omega⟩, fun c1 h1 h1' => ?_⟩
  refine ⟨⟨rfl, by simp [seg]; omega, by simp, one_seg (bytesI_one _), by simp only [maxLen]; omega, by omega⟩, fun c2 h2 h2' => ?_⟩
  refine ⟨i + x.length, l.length, ⟨_, _, rfl, rfl, ?_, rfl⟩, ⟨by omega, by omega⟩, ?_⟩
  · show IntKind.i64.wrap ((i : Int) + (x.length : Int)) = _
    rw [wrap64 (by omega) (by omega)]; omega
  refine ⟨⟨rfl, by simp [seg]; omega, by simp [seg], one_seg (one_seg (bytesI_one _)), by simp only [maxLen]; omega, by omega⟩, fun c3 h3 h3' => ?_⟩
  refine fin_k tt_ok (rs := rs_r03_put) rfl rfl (hK c3 (by omega)) [0, 1, 7] ?_ ?_ rfl rfl rfl rfl
  · rw [show i - 0 + x.length + (l.length - (i + x.length)) = l.length by omega]; rfl
  · have e : seg (seg (bytesI l) (0 + 0 * 1) ((i - 0) * 1)) 0 ((i - 0) * 1) ++ seg (bytesI x) 0 (x.length * 1) ++ seg (seg (bytesI l) (0 + (i + x.length) * 1) ((l.length - (i + x.length)) * 1)) 0 ((l.length - (i + x.length)) * 1) = bytesI (setL l i x) := by
      simp only [Nat.zero_mul, Nat.mul_one, Nat.add_zero, Nat.zero_add, Nat.sub_zero, seg_bytesI, List.drop_zero, setL, bytesI_append, List.take_take, Nat.min_self, List.take_length]
      rw [List.take_of_length_le (l := List.drop (i + x.length) l) (by simp)]
    simp only [pickL, List.getElem?_cons_zero, List.getElem?_cons_succ]
    rw [e]; rfl
noncomputable abbrev ePut : Ent := .st (conS (P := Try.prog) (f := f_r03_put) fun cargs σ0 => match cargs, σ0 with
  | [.s (.sl 0 0 n cap), .s (.int .i64 i), .s (.sl 1 0 k cb)], [.view ys, .own 5 1 cb' xs] => some ⟨.ex (List Int × List Int × Nat) fun p => .ask (ys = bytesI p.1 ∧ n = p.1.length ∧ xs = bytesI p.2.1 ∧ k = p.2.1.length ∧ cb' = cb ∧ i = (p.2.2 : Int) ∧ p.2.2 + p.2.1.length ≤ p.1.length ∧ p.1.length ≤ 65536 ∧ p.1.length ≤ cap)
      (.all Nat (fun c => p.1.length ≤ c) fun c => .ret (.t (.s (.sl 2 0 p.1.length c))) [.view (bytesI p.1), .view (bytesI p.2.1), .own 5 1 c (bytesI (setL p.1 p.2.2 p.2.1))]), fun K h => by
      obtain ⟨⟨l, x, j⟩, ⟨e1, e2, e3, e4, e5, e6, h1, h2, h3⟩, h⟩ := h
      subst e1; subst e2; subst e3; subst e4; subst e5; subst e6
      exact put_c l x cap cb' j h1 h2 h3 K h⟩
  | _, _ => none)
noncomputable abbrev eFour : Ent := .st (conS (P := Try.prog) (f := f_r03_Four) fun cargs σ0 => match cargs, σ0 with
  | [.s (.int .i32 v)], [] => some ⟨.ret (.t (.s (.sl 0 0 4 4))) [.own 5 1 4 (bytesI [byK v 0, byK v 1, byK v 2, byK v 3])], fun K h => Four_c v K h⟩
  | _, _ => none)
noncomputable abbrev ctRS : CT := [(f_r03_Index, .pure spIndex), (f_r03_Lies, .pure spLies), (f_r03_put, ePut), (f_r03_Four, eFour)]
theorem ctRS_ok : CTok Try.prog ctRS := ⟨ceIndex, ceLies, con_ok cal_r03_put _, con_ok cal_r03_Four _, trivial⟩
theorem lies_wBad {m : Ram} {a : Int} (ha : I32 a) : liesB m.l.length a 1 = !wBad m a := by
  rw [lies_span _ _ _ (by decide)]
  congr 1
  have := m.al
  have := m.lo
  unfold wBad spanBad
  unfold I32 at ha
  have e1 : (decide (ofAt a ≥ m.l.length)) = decide (ofAt (wAt a) ≥ m.l.length) := by
    congr 1
    unfold ofAt wAt
    apply propext; constructor <;> intro h <;> omega
  rw [e1]
  cases hd : decide (ofAt (wAt a) ≥ m.l.length)
  · simp only [cond_false]
    congr 1
    have := of_decide_eq_false hd
    unfold ofAt wAt at *
    apply propext; constructor <;> intro h <;> omega
  · rfl
theorem setW_four {l : List Int} {i : Nat} (v : Int) (h : i + 4 ≤ l.length) : setL l i [byK v 0, byK v 1, byK v 2, byK v 3] = setW l i v := by
  apply List.ext_getElem?
  intro j
  have hl : (setW l i v).length = l.length := stW_length h 4 (by decide)
  have hl' : (setL l i [byK v 0, byK v 1, byK v 2, byK v 3]).length = l.length := setL_length (by simpa using h)
  rcases Nat.lt_or_ge j l.length with hj | hj
  · have e := stW_get (v := v) h 4 (by decide) j
    rw [show stW l i v 4 = setW l i v from rfl] at e
    have e2 : (setL l i [byK v 0, byK v 1, byK v 2, byK v 3]).getD j 0 = if i ≤ j ∧ j < i + 4 then byK v (j - i) else l.getD j 0 := by
      unfold setL
      simp only [List.getD_eq_getElem?_getD]
      by_cases h1 : j < i
      · rw [List.append_assoc, List.getElem?_append_left (by simp; omega), List.getElem?_take_of_lt h1, if_neg (by omega)]
      · by_cases h2 : j < i + 4
        · rw [List.append_assoc, List.getElem?_append_right (by simp; omega), List.getElem?_append_left (by simp; omega), if_pos (by omega)]
          have hm : min i l.length = i := by omega
          simp only [List.length_take, hm]
          obtain ⟨k, hk, rfl⟩ : ∃ k, k < 4 ∧ j = i + k := ⟨j - i, by omega, by omega⟩
          rw [Nat.add_sub_cancel_left]
          match k, hk with
          | 0, _ => rfl
          | 1, _ => rfl
          | 2, _ => rfl
          | 3, _ => rfl
        · rw [List.getElem?_append_right (by simp; omega), if_neg (by omega)]
          simp only [List.length_append, List.length_take, List.length_cons, List.length_nil, List.getElem?_drop]
          congr 2
          omega
    rw [← e] at e2
    simpa [List.getD_eq_getElem?_getD, hl, hl', hj] using e2
  · rw [List.getElem?_eq_none (by omega), List.getElem?_eq_none (by omega)]
theorem RSetWord_t (m : Ram) (cap : Nat) (a v : Int) (ha : I32 a) (hc : m.l.length ≤ cap) : Con Try.prog f_r03_SetWord [.s (.sl 0 0 m.l.length cap), .s (.int .i32 a), .s (.int .i32 v)] [.view (bytesI m.l)]
    (.all Nat (fun c => m.l.length ≤ c) fun c => .ret (.tup [.s (.sl 1 0 (m.set a v).l.length c), .s (.int .i64 (m.err a))]) [.view (bytesI m.l), .view (bytesI (m.set a v).l)]) := by
  intro K hK
  have hn := m.hi
  have h0 := m.lo
  refine enter fn_r03_SetWord rfl nt_r03_SetWord rfl rfl (fun φ w0 β0 F => ?_)
  refine c_run tt_ok ctRS_ok k_r03_SetWord [] 60 (by kernel_rfl) ?_
  refine ⟨⟨by omega, by omega, ha⟩, fun h => ?_, fun h => ?_⟩
  · have hb : wBad m a = true := by simpa [lies_wBad ha] using h
    refine WpE.into (aliasSlot 6 0 0 m.l.length cap rfl rfl) ?_
    have h1 := hK cap hc
    rw [set_bad hb] at h1
    refine fin_k tt_ok (rs := rs_r03_SetWord) rfl rfl h1 [0, 1] ?_ ?_ rfl rfl rfl rfl
    · rw [show m.err a = 4 by simp [Ram.err, hb]]; rfl
    · have e : seg (bytesI m.l) 0 m.l.length = bytesI m.l := by rw [seg_bytesI, List.drop_zero, List.take_length]
      rw [e]; rfl
  · have hb : wBad m a = false := by simpa [lies_wBad ha] using h
    have hw := wBad_nat hb
    have hi := spanBad_i ha (k := 1) (n := m.l.length) (by have := lies_span m.l.length a 1 (by decide); rw [lies_wBad ha, hb] at this; simpa using this.symm)
    have ei : IntKind.i64.wrap (ofAt a - (ofAt a).tmod 4) = ((ofAt (wAt a)).toNat : Int) := by
      rw [(tmod4 _).1 hi.1, wrap64 (by omega) (by omega)]; unfold ofAt wAt at *; omega
    refine ⟨ha, (m.l, [byK v 0, byK v 1, byK v 2, byK v 3], (ofAt (wAt a)).toNat), ⟨rfl, rfl, rfl, rfl, rfl, ei, hw, hn, hc⟩, fun c h1 => ?_⟩
    show WpE _ _ _ _ _
    refine e_freeze 2 rfl rfl ?_
    have h2 := hK c h1
    rw [set_len, set_ok hb] at h2
    refine fin_k tt_ok (rs := rs_r03_SetWord) rfl rfl h2 [0, 2] ?_ ?_ rfl rfl rfl rfl
    · rw [show m.err a = 0 by simp [Ram.err, hb]]; rfl
    · have e : setL m.l (ofAt (wAt a)).toNat [byK v 0, byK v 1, byK v 2, byK v 3] = setW m.l (ofAt (wAt a)).toNat v := setW_four v hw
      simp only [pickL, List.getElem?_cons_zero, List.getElem?_cons_succ]
      rw [e]; rfl
theorem RWord_t (m : Ram) (cap : Nat) (a : Int) (ha : I32 a) : Con Try.prog f_r03_Word [.s (.sl 0 0 m.l.length cap), .s (.int .i32 a)] [.view (bytesI m.l)]
    (.ret (.tup [.s (.int .i32 (m.word a)), .s (.int .i64 (m.err a))]) [.view (bytesI m.l)]) := by
  intro K hK
  replace hK : K _ _ := hK
  refine RWord_c m.l cap a m.hi m.al ha m.byt K ⟨fun h => ?_, fun h => ?_⟩
  · have hb : wBad m a = false := by simpa [lies_wBad ha] using h
    show K _ _
    simpa [Ram.word, Ram.err, hb] using hK
  · have hb : wBad m a = true := by simpa [lies_wBad ha] using h
    show K _ _
    simpa [Ram.word, Ram.err, hb] using hK
noncomputable abbrev eRWordT : Ent := .st (conS (P := Try.prog) (f := f_r03_Word) fun cargs σ0 => match cargs, σ0 with
  | [.s (.sl 0 0 n cap), .s (.int .i32 a)], [.view xs] => some ⟨.ex Ram fun m => .ask (n = m.l.length ∧ xs = bytesI m.l ∧ I32 a)
      (.ret (.tup [.s (.int .i32 (m.word a)), .s (.int .i64 (m.err a))]) [.view (bytesI m.l)]), fun K h => by
      obtain ⟨m, ⟨e1, e2, h1⟩, h⟩ := h
      subst e1; subst e2
      exact RWord_t m cap a h1 K h⟩
  | _, _ => none)
noncomputable abbrev eRSetWordT : Ent := .st (conS (P := Try.prog) (f := f_r03_SetWord) fun cargs σ0 => match cargs, σ0 with
  | [.s (.sl 0 0 n cap), .s (.int .i32 a), .s (.int .i32 v)], [.view xs] => some ⟨.ex Ram fun m => .ask (n = m.l.length ∧ xs = bytesI m.l ∧ I32 a ∧ m.l.length ≤ cap)
      (.all Nat (fun c => m.l.length ≤ c) fun c => .ret (.tup [.s (.sl 1 0 (m.set a v).l.length c), .s (.int .i64 (m.err a))]) [.view (bytesI m.l), .view (bytesI (m.set a v).l)]), fun K h => by
      obtain ⟨m, ⟨e1, e2, h1, h2⟩, h⟩ := h
      subst e1; subst e2
      exact RSetWord_t m cap a v h1 h2 K h⟩
  | _, _ => none)
end Go.Proofs

namespace Go.Proofs
open Go Go.Sx
set_option maxRecDepth 10000
structure Mach where
  k : Core
  e : Int
  m : Ram
abbrev mBox2 (n : Nat) : Ch := .blk 65 [.sl 2 0 n n]
def Mach.chunks : Mach → List Ch
  | ⟨k, e, m⟩ => [.blk 77 (.loc 1 0 :: .int .i64 e :: k.sv), mBox2 m.l.length, mOwn m.l]
def eOr (e e' : Int) : Int := bif e == 0 then e' else e
def Mach.load : Mach → Int → Mach
  | ⟨k, e, m⟩, a => ⟨k, eOr e (m.err a), m⟩
def Mach.store : Mach → Int → Int → Mach
  | ⟨k, e, m⟩, a, v => ⟨k, eOr e (m.err a), bif e == 0 then m.set a v else m⟩
noncomputable abbrev ctMW : CT := [(f_mem_Mem_Word, eWordT), (f_mem_Mem_SetWord, eSetWordT)]
theorem ctMW_ok : CTok Try.prog ctMW := ⟨con_ok cal_mem_Mem_Word _, con_ok cal_mem_Mem_SetWord _, trivial⟩
theorem load_c (x : Mach) (a : Int) (ha : I32 a) : Con Try.prog f_alt_words_load [.s (.loc 0 0), .s (.int .i32 a)] x.chunks (.ret (.t (.s (.int .i32 (x.m.word a)))) (x.load a).chunks) := by
  obtain ⟨k, e, m⟩ := x
  intro K hK
  refine enter fn_alt_words_load rfl nt_alt_words_load rfl rfl (fun φ w0 β0 F => ?_)
  refine c_run tt_ok ctMW_ok k_alt_words_load [] 60 (by kernel_rfl) ?_
  refine ⟨m, ⟨rfl, rfl, rfl, rfl, ha⟩, fun h => ?_, fun h => ?_⟩
  · rw [show Mach.load ⟨k, e, m⟩ a = ⟨k, m.err a, m⟩ by simp [Mach.load, eOr, h]] at hK
    exact fin_k tt_ok (rs := rs_alt_words_load) rfl rfl hK [0, 1, 2] rfl rfl rfl rfl rfl rfl
  · rw [show Mach.load ⟨k, e, m⟩ a = ⟨k, e, m⟩ by simp [Mach.load, eOr, h]] at hK
    exact fin_k tt_ok (rs := rs_alt_words_load) rfl rfl hK [0, 1, 2] rfl rfl rfl rfl rfl rfl
theorem store_c (x : Mach) (a v : Int) (ha : I32 a) : Con Try.prog f_alt_words_store [.s (.loc 0 0), .s (.int .i32 a), .s (.int .i32 v)] x.chunks (.ret (.tup []) (x.store a v).chunks) := by
  obtain ⟨k, e, m⟩ := x
  intro K hK
  refine enter fn_alt_words_store rfl nt_alt_words_store rfl rfl (fun φ w0 β0 F => ?_)
  refine c_run tt_ok ctMW_ok k_alt_words_store [] 60 (by kernel_rfl) ?_
  refine ⟨fun h => ⟨m, ⟨rfl, rfl, rfl, rfl, ha⟩, ?_⟩, fun h => ?_⟩
  · rw [show Mach.store ⟨k, e, m⟩ a v = ⟨k, m.err a, m.set a v⟩ by simp [Mach.store, eOr, h]] at hK
    exact fin_ke tt_ok (rs := rs_alt_words_store) rfl rfl hK [0, 1, 2] rfl rfl rfl rfl rfl rfl
  · rw [show Mach.store ⟨k, e, m⟩ a v = ⟨k, e, m⟩ by simp [Mach.store, eOr, h]] at hK
    exact fin_ke tt_ok (rs := rs_alt_words_store) rfl rfl hK [0, 1, 2] rfl rfl rfl rfl rfl rfl
end Go.Proofs

namespace Go.Proofs
open Go Go.Sx
set_option maxRecDepth 10000
noncomputable abbrev eLoad : Ent := .st (conS (P := Try.prog) (f := f_alt_words_load) fun cargs σ0 => match cargs, σ0 with
  | [.s (.loc 0 0), .s (.int .i32 a)], [.blk 77 (.loc 1 0 :: .int .i64 e :: cs), .blk 65 [.sl 2 0 n n'], .own 5 1 c xs] => withCore cs fun k hk => some ⟨.ex Ram fun m => .ask (n = m.l.length ∧ n' = m.l.length ∧ c = m.l.length ∧ xs = bytesI m.l ∧ I32 a)
      (.ret (.t (.s (.int .i32 (m.word a)))) ((Mach.mk k e m).load a).chunks), fun K h => by
      obtain ⟨m, ⟨e1, e2, e3, e4, h1⟩, h⟩ := h
      subst e1; subst e2; subst e3; subst e4; subst hk
      exact load_c ⟨k, e, m⟩ a h1 K h⟩
  | _, _ => none)
noncomputable abbrev eStore : Ent := .st (conS (P := Try.prog) (f := f_alt_words_store) fun cargs σ0 => match cargs, σ0 with
  | [.s (.loc 0 0), .s (.int .i32 a), .s (.int .i32 v)], [.blk 77 (.loc 1 0 :: .int .i64 e :: cs), .blk 65 [.sl 2 0 n n'], .own 5 1 c xs] => withCore cs fun k hk => some ⟨.ex Ram fun m => .ask (n = m.l.length ∧ n' = m.l.length ∧ c = m.l.length ∧ xs = bytesI m.l ∧ I32 a)
      (.ret (.tup []) ((Mach.mk k e m).store a v).chunks), fun K h => by
      obtain ⟨m, ⟨e1, e2, e3, e4, h1⟩, h⟩ := h
      subst e1; subst e2; subst e3; subst e4; subst hk
      exact store_c ⟨k, e, m⟩ a v h1 K h⟩
  | _, _ => none)
/-- Where the state lies; what the process is called. -/
def stAt (w : Int) : Int := IntKind.i32.wrap (w + -12)
def ownAt (w p : Int) : Int := IntKind.i32.wrap (w + IntKind.i32.wrap p)
theorem state_c (x : Mach) : Con Try.prog f_alt_machine_state [.s (.loc 0 0)] x.chunks (.ret (.t (.s (.int .i32 (stAt x.k.wptr)))) x.chunks) := by
  obtain ⟨k, e, m⟩ := x
  intro K hK
  refine enter fn_alt_machine_state rfl nt_alt_machine_state rfl rfl (fun φ w0 β0 F => ?_)
  refine c_run tt_ok (ct := []) trivial k_alt_machine_state [] 60 (by kernel_rfl) ?_
  exact fin_k tt_ok (rs := rs_alt_machine_state) rfl rfl hK [0, 1, 2] rfl rfl rfl rfl rfl rfl
theorem own_c (x : Mach) : Con Try.prog f_alt_machine_own [.s (.loc 0 0)] x.chunks (.ret (.t (.s (.int .i32 (ownAt x.k.wptr x.k.pri)))) x.chunks) := by
  obtain ⟨k, e, m⟩ := x
  intro K hK
  refine enter fn_alt_machine_own rfl nt_alt_machine_own rfl rfl (fun φ w0 β0 F => ?_)
  refine c_run tt_ok (ct := []) trivial k_alt_machine_own [] 60 (by kernel_rfl) ?_
  exact fin_k tt_ok (rs := rs_alt_machine_own) rfl rfl hK [0, 1, 2] rfl rfl rfl rfl rfl rfl
noncomputable abbrev eState : Ent := .st (conS (P := Try.prog) (f := f_alt_machine_state) fun cargs σ0 => match cargs, σ0 with
  | [.s (.loc 0 0)], [.blk 77 (.loc 1 0 :: .int .i64 e :: cs), .blk 65 [.sl 2 0 n n'], .own 5 1 c xs] => withCore cs fun k hk => some ⟨.ex Ram fun m => .ask (n = m.l.length ∧ n' = m.l.length ∧ c = m.l.length ∧ xs = bytesI m.l)
      (.ret (.t (.s (.int .i32 (stAt k.wptr)))) (Mach.mk k e m).chunks), fun K h => by
      obtain ⟨m, ⟨e1, e2, e3, e4⟩, h⟩ := h
      subst e1; subst e2; subst e3; subst e4; subst hk
      exact state_c ⟨k, e, m⟩ K h⟩
  | _, _ => none)
noncomputable abbrev eOwn : Ent := .st (conS (P := Try.prog) (f := f_alt_machine_own) fun cargs σ0 => match cargs, σ0 with
  | [.s (.loc 0 0)], [.blk 77 (.loc 1 0 :: .int .i64 e :: cs), .blk 65 [.sl 2 0 n n'], .own 5 1 c xs] => withCore cs fun k hk => some ⟨.ex Ram fun m => .ask (n = m.l.length ∧ n' = m.l.length ∧ c = m.l.length ∧ xs = bytesI m.l)
      (.ret (.t (.s (.int .i32 (ownAt k.wptr k.pri)))) (Mach.mk k e m).chunks), fun K h => by
      obtain ⟨m, ⟨e1, e2, e3, e4⟩, h⟩ := h
      subst e1; subst e2; subst e3; subst e4; subst hk
      exact own_c ⟨k, e, m⟩ K h⟩
  | _, _ => none)
noncomputable abbrev ctMA : CT := [(f_alt_words_load, eLoad), (f_alt_words_store, eStore), (f_alt_machine_state, eState), (f_alt_machine_own, eOwn)]
theorem ctMA_ok : CTok Try.prog ctMA := ⟨con_ok cal_alt_words_load _, con_ok cal_alt_words_store _, con_ok cal_alt_machine_state _, con_ok cal_alt_machine_own _, trivial⟩
def Mach.alt : Mach → Mach
  | ⟨k, e, m⟩ => Mach.store ⟨k, e, m⟩ (stAt k.wptr) (-2147483647)
theorem alt_c (x : Mach) : Con Try.prog f_alt_machine_alt [.s (.loc 0 0)] x.chunks (.ret (.tup []) x.alt.chunks) := by
  obtain ⟨k, e, m⟩ := x
  intro K hK
  refine enter fn_alt_machine_alt rfl nt_alt_machine_alt rfl rfl (fun φ w0 β0 F => ?_)
  refine c_run tt_ok ctMA_ok k_alt_machine_alt [] 60 (by kernel_rfl) ?_
  refine ⟨m, ⟨rfl, rfl, rfl, rfl⟩, m, ⟨rfl, rfl, rfl, rfl, I32_wrap _⟩, ?_⟩
  exact fin_ke tt_ok (rs := rs_alt_machine_alt) rfl rfl hK [0, 1, 2] rfl rfl rfl rfl rfl rfl
def emStore (e : Int) (m : Ram) (a v : Int) : Int × Ram := (eOr e (m.err a), bif e == 0 then m.set a v else m)
def Mach.of (k : Core) (y : Int × Ram) : Mach := ⟨k, y.1, y.2⟩
def enbsY (k : Core) (e : Int) (m : Ram) : Int × Ram := bif k.a != 0 then emStore e m (stAt k.wptr) (-2147483645) else (e, m)
def Mach.enbs : Mach → Mach
  | ⟨k, e, m⟩ => .of k (enbsY k e m)
theorem enbs_c (x : Mach) : Con Try.prog f_alt_machine_enbs [.s (.loc 0 0)] x.chunks (.ret (.tup []) x.enbs.chunks) := by
  obtain ⟨k, e, m⟩ := x
  intro K hK
  refine enter fn_alt_machine_enbs rfl nt_alt_machine_enbs rfl rfl (fun φ w0 β0 F => ?_)
  refine c_run tt_ok ctMA_ok k_alt_machine_enbs [] 60 (by kernel_rfl) ?_
  refine ⟨fun h => ?_, fun h => ?_⟩
  · rw [show Mach.enbs ⟨k, e, m⟩ = .of k (emStore e m (stAt k.wptr) (-2147483645)) by simp only [Mach.enbs, enbsY, h, cond_true]] at hK
    refine ⟨m, ⟨rfl, rfl, rfl, rfl⟩, m, ⟨rfl, rfl, rfl, rfl, I32_wrap _⟩, ?_⟩
    exact fin_ke tt_ok (rs := rs_alt_machine_enbs) rfl rfl hK [0, 1, 2] rfl rfl rfl rfl rfl rfl
  · rw [show Mach.enbs ⟨k, e, m⟩ = ⟨k, e, m⟩ by simp only [Mach.enbs, enbsY, h, cond_false, Mach.of]] at hK
    exact fin_ke tt_ok (rs := rs_alt_machine_enbs) rfl rfl hK [0, 1, 2] rfl rfl rfl rfl rfl rfl
def enbcY (k : Core) (e : Int) (m : Ram) : Int × Ram := bif k.a == 0 then (e, m) else bif m.word k.b == -2147483648 then emStore (eOr e (m.err k.b)) m k.b (ownAt k.wptr k.pri)
  else bif m.word k.b == ownAt k.wptr k.pri then (eOr e (m.err k.b), m) else emStore (eOr e (m.err k.b)) m (stAt k.wptr) (-2147483645)
def Mach.enbc : Mach → Mach
  | ⟨k, e, m⟩ => .of { k with b := k.c } (enbcY k e m)
theorem enbc_c (x : Mach) (hb : I32 x.k.b) : Con Try.prog f_alt_machine_enbc [.s (.loc 0 0)] x.chunks (.ret (.tup []) x.enbc.chunks) := by
  obtain ⟨k, e, m⟩ := x
  intro K hK
  refine enter fn_alt_machine_enbc rfl nt_alt_machine_enbc rfl rfl (fun φ w0 β0 F => ?_)
  refine c_run tt_ok ctMA_ok k_alt_machine_enbc [] 60 (by kernel_rfl) ?_
  refine ⟨fun h => ?_, fun h => ⟨m, ⟨rfl, rfl, rfl, rfl, hb⟩, fun h2 => ⟨m, ⟨rfl, rfl, rfl, rfl⟩, m, ⟨rfl, rfl, rfl, rfl, hb⟩, ?_⟩, fun h2 => ⟨m, ⟨rfl, rfl, rfl, rfl⟩, fun h3 => ?_, fun h3 => ⟨m, ⟨rfl, rfl, rfl, rfl⟩, m, ⟨rfl, rfl, rfl, rfl, I32_wrap _⟩, ?_⟩⟩⟩⟩
  · rw [show Mach.enbc ⟨k, e, m⟩ = .of { k with b := k.c } (e, m) by simp only [Mach.enbc, enbcY, h, cond_true]] at hK
    exact fin_k tt_ok (rs := rs_alt_machine_enbc) rfl rfl hK [0, 1, 2] rfl rfl rfl rfl rfl rfl
  · rw [show Mach.enbc ⟨k, e, m⟩ = .of { k with b := k.c } (emStore (eOr e (m.err k.b)) m k.b (ownAt k.wptr k.pri)) by simp only [Mach.enbc, enbcY, h, h2, cond_true, cond_false]] at hK
    exact fin_ke tt_ok (rs := rs_alt_machine_enbc) rfl rfl hK [0, 1, 2] rfl rfl rfl rfl rfl rfl
  · rw [show Mach.enbc ⟨k, e, m⟩ = .of { k with b := k.c } (eOr e (m.err k.b), m) by simp only [Mach.enbc, enbcY, h, h2, h3, cond_true, cond_false]] at hK
    exact fin_ke tt_ok (rs := rs_alt_machine_enbc) rfl rfl hK [0, 1, 2] rfl rfl rfl rfl rfl rfl
  · rw [show Mach.enbc ⟨k, e, m⟩ = .of { k with b := k.c } (emStore (eOr e (m.err k.b)) m (stAt k.wptr) (-2147483645)) by simp only [Mach.enbc, enbcY, h, h2, h3, cond_false]] at hK
    exact fin_ke tt_ok (rs := rs_alt_machine_enbc) rfl rfl hK [0, 1, 2] rfl rfl rfl rfl rfl rfl
end Go.Proofs

namespace Go.Proofs
open Go Go.Sx
set_option maxRecDepth 10000
def chooseY (w : Int) (n : Int) (e : Int) (m : Ram) : Int × Ram := bif m.word w == -1 then emStore (eOr e (m.err w)) m w n else (eOr e (m.err w), m)
def Mach.choose : Mach → Int → Mach
  | ⟨k, e, m⟩, n => .of { k with a := bif m.word k.wptr == -1 then 1 else 0 } (chooseY k.wptr n e m)
theorem choose_c (x : Mach) (n : Int) (hw : I32 x.k.wptr) : Con Try.prog f_alt_machine_choose [.s (.loc 0 0), .s (.int .i32 n)] x.chunks (.ret (.tup []) (x.choose n).chunks) := by
  obtain ⟨k, e, m⟩ := x
  intro K hK
  refine enter fn_alt_machine_choose rfl nt_alt_machine_choose rfl rfl (fun φ w0 β0 F => ?_)
  refine c_run tt_ok ctMA_ok k_alt_machine_choose [] 60 (by kernel_rfl) ?_
  refine ⟨m, ⟨rfl, rfl, rfl, rfl, hw⟩, fun h => ⟨m, ⟨rfl, rfl, rfl, rfl, hw⟩, ?_⟩, fun h => ?_⟩
  · rw [show Mach.choose ⟨k, e, m⟩ n = .of { k with a := 1 } (emStore (eOr e (m.err k.wptr)) m k.wptr n) by simp only [Mach.choose, chooseY, h, cond_true]] at hK
    exact fin_ke tt_ok (rs := rs_alt_machine_choose) rfl rfl hK [0, 1, 2] rfl rfl rfl rfl rfl rfl
  · rw [show Mach.choose ⟨k, e, m⟩ n = .of { k with a := 0 } (eOr e (m.err k.wptr), m) by simp only [Mach.choose, chooseY, h, cond_false]] at hK
    exact fin_ke tt_ok (rs := rs_alt_machine_choose) rfl rfl hK [0, 1, 2] rfl rfl rfl rfl rfl rfl
noncomputable abbrev eChoose : Ent := .st (conS (P := Try.prog) (f := f_alt_machine_choose) fun cargs σ0 => match cargs, σ0 with
  | [.s (.loc 0 0), .s (.int .i32 v)], [.blk 77 (.loc 1 0 :: .int .i64 e :: cs), .blk 65 [.sl 2 0 n n'], .own 5 1 c xs] => withCore cs fun k hk => some ⟨.ex Ram fun m => .ask (n = m.l.length ∧ n' = m.l.length ∧ c = m.l.length ∧ xs = bytesI m.l ∧ I32 k.wptr)
      (.ret (.tup []) ((Mach.mk k e m).choose v).chunks), fun K h => by
      obtain ⟨m, ⟨e1, e2, e3, e4, h1⟩, h⟩ := h
      subst e1; subst e2; subst e3; subst e4; subst hk
      exact choose_c ⟨k, e, m⟩ v h1 K h⟩
  | _, _ => none)
noncomputable abbrev ctMC : CT := (f_alt_machine_choose, eChoose) :: ctMA
theorem ctMC_ok : CTok Try.prog ctMC := ⟨con_ok cal_alt_machine_choose _, ctMA_ok⟩
def Mach.diss : Mach → Mach
  | ⟨k, e, m⟩ => .of { k with a := bif k.b != 0 then (bif m.word k.wptr == -1 then 1 else 0) else 0, b := k.c } (bif k.b != 0 then chooseY k.wptr k.a e m else (e, m))
theorem diss_c (x : Mach) (hw : I32 x.k.wptr) : Con Try.prog f_alt_machine_diss [.s (.loc 0 0)] x.chunks (.ret (.tup []) x.diss.chunks) := by
  obtain ⟨k, e, m⟩ := x
  intro K hK
  refine enter fn_alt_machine_diss rfl nt_alt_machine_diss rfl rfl (fun φ w0 β0 F => ?_)
  refine c_run tt_ok ctMC_ok k_alt_machine_diss [] 60 (by kernel_rfl) ?_
  refine ⟨fun h => ⟨m, ⟨rfl, rfl, rfl, rfl, hw⟩, ?_⟩, fun h => ?_⟩
  · rw [show Mach.diss ⟨k, e, m⟩ = .of { k with a := bif m.word k.wptr == -1 then 1 else 0, b := k.c } (chooseY k.wptr k.a e m) by simp only [Mach.diss, h, cond_true]] at hK
    exact fin_ke tt_ok (rs := rs_alt_machine_diss) rfl rfl hK [0, 1, 2] rfl rfl rfl rfl rfl rfl
  · rw [show Mach.diss ⟨k, e, m⟩ = .of { k with a := 0, b := k.c } (e, m) by simp only [Mach.diss, h, cond_false]] at hK
    exact fin_ke tt_ok (rs := rs_alt_machine_diss) rfl rfl hK [0, 1, 2] rfl rfl rfl rfl rfl rfl
def discY (k : Core) (e : Int) (m : Ram) : Int × Ram := bif k.b == 0 then (e, m) else bif m.word k.c == ownAt k.wptr k.pri then emStore (eOr e (m.err k.c)) m k.c (-2147483648)
  else bif m.word k.c == -2147483648 then (eOr e (m.err k.c), m) else chooseY k.wptr k.a (eOr e (m.err k.c)) m
def discA (k : Core) (m : Ram) : Int := bif k.b == 0 then 0 else bif m.word k.c == ownAt k.wptr k.pri then 0 else bif m.word k.c == -2147483648 then 0 else bif m.word k.wptr == -1 then 1 else 0
def Mach.disc : Mach → Mach
  | ⟨k, e, m⟩ => .of { k with a := discA k m, b := 0, c := 0 } (discY k e m)
theorem disc_c (x : Mach) (hc : I32 x.k.c) (hw : I32 x.k.wptr) : Con Try.prog f_alt_machine_disc [.s (.loc 0 0)] x.chunks (.ret (.tup []) x.disc.chunks) := by
  obtain ⟨k, e, m⟩ := x
  intro K hK
  refine enter fn_alt_machine_disc rfl nt_alt_machine_disc rfl rfl (fun φ w0 β0 F => ?_)
  refine c_run tt_ok ctMC_ok k_alt_machine_disc [] 60 (by kernel_rfl) ?_
  refine ⟨fun h => ?_, fun h => ⟨m, ⟨rfl, rfl, rfl, rfl, hc⟩, m, ⟨rfl, rfl, rfl, rfl⟩, fun h2 => ⟨m, ⟨rfl, rfl, rfl, rfl, hc⟩, ?_⟩, fun h2 => ⟨fun h3 => ?_, fun h3 => ⟨m, ⟨rfl, rfl, rfl, rfl, hw⟩, ?_⟩⟩⟩⟩
  · rw [show Mach.disc ⟨k, e, m⟩ = .of { k with a := 0, b := 0, c := 0 } (e, m) by simp only [Mach.disc, discA, discY, h, cond_true]] at hK
    exact fin_k tt_ok (rs := rs_alt_machine_disc) rfl rfl hK [0, 1, 2] rfl rfl rfl rfl rfl rfl
  · rw [show Mach.disc ⟨k, e, m⟩ = .of { k with a := 0, b := 0, c := 0 } (emStore (eOr e (m.err k.c)) m k.c (-2147483648)) by simp only [Mach.disc, discA, discY, h, h2, cond_true, cond_false]] at hK
    exact fin_ke tt_ok (rs := rs_alt_machine_disc) rfl rfl hK [0, 1, 2] rfl rfl rfl rfl rfl rfl
  · rw [show Mach.disc ⟨k, e, m⟩ = .of { k with a := 0, b := 0, c := 0 } (eOr e (m.err k.c), m) by simp only [Mach.disc, discA, discY, h, h2, h3, cond_true, cond_false]] at hK
    exact fin_ke tt_ok (rs := rs_alt_machine_disc) rfl rfl hK [0, 1, 2] rfl rfl rfl rfl rfl rfl
  · rw [show Mach.disc ⟨k, e, m⟩ = .of { k with a := bif m.word k.wptr == -1 then 1 else 0, b := 0, c := 0 } (chooseY k.wptr k.a (eOr e (m.err k.c)) m) by simp only [Mach.disc, discA, discY, h, h2, h3, cond_false]] at hK
    exact fin_ke tt_ok (rs := rs_alt_machine_disc) rfl rfl hK [0, 1, 2] rfl rfl rfl rfl rfl rfl
def Mach.altend : Mach → Mach
  | ⟨k, e, m⟩ => ⟨{ k with iptr := IntKind.i32.wrap (k.iptr + m.word k.wptr) }, eOr e (m.err k.wptr), m⟩
theorem altend_c (x : Mach) (hw : I32 x.k.wptr) : Con Try.prog f_alt_machine_altend [.s (.loc 0 0)] x.chunks (.ret (.tup []) x.altend.chunks) := by
  obtain ⟨k, e, m⟩ := x
  intro K hK
  refine enter fn_alt_machine_altend rfl nt_alt_machine_altend rfl rfl (fun φ w0 β0 F => ?_)
  refine c_run tt_ok ctMC_ok k_alt_machine_altend [] 60 (by kernel_rfl) ?_
  refine c_ways tt_ok ctMC_ok k_alt_machine_altend rfl rfl ?_
  refine ⟨⟨m, ⟨rfl, rfl, rfl, rfl, hw⟩, ?_⟩, ⟨m, ⟨rfl, rfl, rfl, rfl, hw⟩, ?_⟩, ⟨m, ⟨rfl, rfl, rfl, rfl, hw⟩, ?_⟩⟩
  all_goals exact fin_ke tt_ok (rs := rs_alt_machine_altend) rfl rfl hK [0, 1, 2] rfl rfl rfl rfl rfl rfl
end Go.Proofs

namespace Go.Proofs
open Go Go.Sx
set_option maxRecDepth 10000
theorem and3_i32 (v : Int) : bits .and .i32 v 3 = v % 4 := by
  have e : bits .and .i32 v 3 = IntKind.i32.wrap ((BitVec.ofInt 32 v &&& BitVec.ofInt 32 3).toNat : Int) := rfl
  have hn : ∀ i, i < 32 → (BitVec.ofInt 32 3).getLsbD i = decide (i < 2) := by decide
  have e1 : BitVec.ofInt 32 v &&& BitVec.ofInt 32 3 = ((BitVec.ofInt 32 v).setWidth 2).setWidth 32 := by
    apply BitVec.eq_of_getLsbD_eq
    intro i hi
    rw [BitVec.getLsbD_and, hn i hi]
    simp only [BitVec.getLsbD_setWidth]
    by_cases h2 : i < 2 <;> simp [h2, hi]
  have e2 : ((((BitVec.ofInt 32 v).setWidth 2).setWidth 32).toNat : Int) = v % 4 := by
    rw [BitVec.toNat_setWidth, BitVec.toNat_setWidth, BitVec.toNat_ofInt]
    have : ((2 ^ 32 : Nat) : Int) = 4294967296 := rfl
    rw [this]; omega
  rw [e, e1, e2, IntKind.wrap_i32]; omega
noncomputable abbrev ctSz : CT := [(f_mem_Mem_Size, eSizeT)]
theorem ctSz_ok : CTok Try.prog ctSz := ⟨con_ok cal_mem_Mem_Size _, trivial⟩
def validB (m : Ram) (w : Int) : Bool := bif bif w % 4 == 0 then decide (ofAt w ≥ 20) else false then decide (ofAt w + 4 ≤ m.l.length) else false
theorem valid_c (m : Ram) (w : Int) (hw : I32 w) : Con Try.prog f_sched_valid [.s (.loc 0 0), .s (.int .i32 w)] [mBox m.l.length, mOwn m.l] (.ret (.t (.s (.bool (validB m w)))) [mBox m.l.length, mOwn m.l]) := by
  intro K hK
  refine enter fn_sched_valid rfl nt_sched_valid rfl rfl (fun φ w0 β0 F => ?_)
  refine c_run tt_ok ctSz_ok k_sched_valid [] 60 (by kernel_rfl) ?_
  have e : (bif bits .and .i32 w 3 == 0 then decide (IntKind.i64.wrap (IntKind.i64.wrap w - -2147483648) ≥ 20) else false) = (bif w % 4 == 0 then decide (ofAt w ≥ 20) else false) := by
    unfold I32 at hw
    rw [and3_i32, wrap64 (n := w) (by omega) (by omega), wrap64 (by omega) (by omega)]; rfl
  have hn := m.hi
  refine ⟨fun h => ?_, fun h => ?_⟩
  · refine fin_k tt_ok (rs := rs_sched_valid) rfl rfl hK [0, 1] (t1b ?_) rfl rfl rfl rfl rfl
    rw [e]
    unfold validB
    rw [e] at h
    rw [h]
    unfold I32 at hw
    rw [wrap64 (n := w) (by omega) (by omega), wrap64 (n := w - -2147483648) (by omega) (by omega), wrap64 (by omega) (by omega)]; rfl
  · have h' : (bif w % 4 == 0 then decide (ofAt w ≥ 20) else false) = false := by rw [← e]; exact h
    refine ⟨fun h' => absurd (h.symm.trans h') (by decide), fun _ => ⟨h, ?_⟩⟩
    refine fin_k tt_ok (rs := rs_sched_valid) rfl rfl hK [0, 1] ?_ rfl rfl rfl rfl rfl
    refine t1b ?_
    unfold validB
    rw [h']; rfl
noncomputable abbrev eValid : Ent := .st (conS (P := Try.prog) (f := f_sched_valid) fun cargs σ0 => match cargs, σ0 with
  | [.s (.loc 0 0), .s (.int .i32 w)], [.blk 65 [.sl 1 0 n n'], .own 5 1 c xs] => some ⟨.ex Ram fun m => .ask (n = m.l.length ∧ n' = m.l.length ∧ c = m.l.length ∧ xs = bytesI m.l ∧ I32 w)
      (.ret (.t (.s (.bool (validB m w)))) [mBox m.l.length, mOwn m.l]), fun K h => by
      obtain ⟨m, ⟨e1, e2, e3, e4, h1⟩, h⟩ := h
      subst e1; subst e2; subst e3; subst e4
      exact valid_c m w h1 K h⟩
  | _, _ => none)
noncomputable abbrev ctWt : CT := [(f_sched_none, in_sched_none ctSz), (f_sched_valid, eValid), (f_mem_Mem_SetWord, eSetWordT), (f_sched_nobody, in_sched_nobody [])]
theorem ctWt_ok : CTok Try.prog ctWt := ⟨in_sched_none_ok ctSz_ok, con_ok cal_sched_valid _, con_ok cal_mem_Mem_SetWord _, in_sched_nobody_ok (ct := []) trivial, trivial⟩
def Core.nobody (k : Core) : Core := { k with a := 0, b := 0, c := 0, iptr := 0, wptr := 0, pri := 0, slice := 0, err := false, busy := false }
def waitE (k : Core) (m : Ram) : Int := bif !k.busy then 8 else bif !validB m k.wptr then 4 else 0
def waitK (k : Core) (m : Ram) : Core := kSel (waitE k m == 0) k.nobody .zero
def waitM (k : Core) (m : Ram) : Ram := bif waitE k m == 0 then m.set (IntKind.i32.wrap (k.wptr + -4)) k.iptr else m
theorem Wait_c (k : Core) (m : Ram) (hw : I32 k.wptr) : Con Try.prog f_sched_Wait [.agg k.sv, .s (.loc 0 0)] [mBox m.l.length, mOwn m.l]
    (.ret (.tup [.agg (waitK k m).sv, .s (.int .i64 (waitE k m))]) [mBox (waitM k m).l.length, mOwn (waitM k m).l]) := by
  intro K hK
  refine enter fn_sched_Wait rfl nt_sched_Wait rfl rfl (fun φ w0 β0 F => ?_)
  refine c_run tt_ok ctWt_ok k_sched_Wait [] 60 (by kernel_rfl) ?_
  refine ⟨fun h => ?_, fun _ => ⟨fun h => ?_, fun h => ?_⟩⟩
  · exfalso; have h0 := m.lo; have := of_decide_eq_true h; omega
  · rw [show waitE k m = 8 by simp only [waitE, h, cond_true], show waitM k m = m by simp [waitM, waitE, h], show waitK k m = .zero by simp [waitK, waitE, h, kSel_f]] at hK
    exact fin_k tt_ok (rs := rs_sched_Wait) rfl rfl hK [0, 1] rfl rfl rfl rfl rfl rfl
  · refine ⟨m, ⟨rfl, rfl, rfl, rfl, hw⟩, fun h2 => ?_, fun h2 => ?_⟩
    · rw [show waitE k m = 4 by simp only [waitE, h, h2, cond_true, cond_false], show waitM k m = m by simp [waitM, waitE, h, h2], show waitK k m = .zero by simp [waitK, waitE, h, h2, kSel_f]] at hK
      exact fin_k tt_ok (rs := rs_sched_Wait) rfl rfl hK [0, 1] rfl rfl rfl rfl rfl rfl
    · rw [show waitE k m = 0 by simp only [waitE, h, h2, cond_false], show waitM k m = m.set (IntKind.i32.wrap (k.wptr + -4)) k.iptr by simp [waitM, waitE, h, h2], show waitK k m = k.nobody by simp [waitK, waitE, h, h2, kSel_t]] at hK
      refine ⟨m, ⟨rfl, rfl, rfl, rfl, I32_wrap _⟩, ?_⟩
      exact fin_k tt_ok (rs := rs_sched_Wait) rfl rfl hK [0, 1] rfl rfl rfl rfl rfl rfl
end Go.Proofs

namespace Go.Proofs
open Go Go.Sx
set_option maxRecDepth 10000
noncomputable abbrev eWait : Ent := .st (conS (P := Try.prog) (f := f_sched_Wait) fun cargs σ0 => match cargs, σ0 with
  | [.agg cs, .s (.loc 0 0)], [.blk 65 [.sl 1 0 n n'], .own 5 1 c xs] => withCore cs fun k hk => some ⟨.ex Ram fun m => .ask (n = m.l.length ∧ n' = m.l.length ∧ c = m.l.length ∧ xs = bytesI m.l ∧ I32 k.wptr)
      (.ret (.tup [.agg (waitK k m).sv, .s (.int .i64 (waitE k m))]) [mBox (waitM k m).l.length, mOwn (waitM k m).l]), fun K h => by
      obtain ⟨m, ⟨e1, e2, e3, e4, h1⟩, h⟩ := h
      subst e1; subst e2; subst e3; subst e4; subst hk
      exact Wait_c k m h1 K h⟩
  | _, _ => none)
noncomputable abbrev ctMT : CT := (f_sched_Wait, eWait) :: ctMC
theorem ctMT_ok : CTok Try.prog ctMT := ⟨con_ok cal_sched_Wait _, ctMC_ok⟩
def awGo (k : Core) (e : Int) (m : Ram) : Bool := !(m.word (stAt k.wptr) == -2147483645) && (!(eOr e (m.err (stAt k.wptr)) != 0) && !(waitE k m != 0))
def altwtY (k : Core) (e : Int) (m : Ram) : Int × Ram :=
  bif m.word (stAt k.wptr) == -2147483645 then emStore (eOr e (m.err (stAt k.wptr))) m k.wptr (-1)
  else bif eOr e (m.err (stAt k.wptr)) != 0 then (eOr e (m.err (stAt k.wptr)), m)
  else bif waitE k m != 0 then (waitE k m, waitM k m)
  else emStore (emStore (eOr e (m.err (stAt k.wptr))) (waitM k m) k.wptr (-1)).1 (emStore (eOr e (m.err (stAt k.wptr))) (waitM k m) k.wptr (-1)).2 (stAt k.wptr) (-2147483646)
def Mach.altwt : Mach → Mach
  | ⟨k, e, m⟩ => .of (kSel (awGo k e m) (waitK k m) k) (altwtY k e m)
set_option maxHeartbeats 4000000 in
theorem altwt_c (x : Mach) (hw : I32 x.k.wptr) : Con Try.prog f_alt_machine_altwt [.s (.loc 0 0)] x.chunks (.ret (.tup []) x.altwt.chunks) := by
  obtain ⟨k, e, m⟩ := x
  intro K hK
  refine enter fn_alt_machine_altwt rfl nt_alt_machine_altwt rfl rfl (fun φ w0 β0 F => ?_)
  refine c_run tt_ok ctMT_ok k_alt_machine_altwt [] 60 (by kernel_rfl) ?_
  refine ⟨m, ⟨rfl, rfl, rfl, rfl⟩, m, ⟨rfl, rfl, rfl, rfl, I32_wrap _⟩, fun h => ⟨m, ⟨rfl, rfl, rfl, rfl, hw⟩, ?_⟩, fun h => ⟨fun h2 => ?_, fun h2 => ?_⟩⟩
  · rw [show Mach.altwt ⟨k, e, m⟩ = .of k (emStore (eOr e (m.err (stAt k.wptr))) m k.wptr (-1)) by simp only [Mach.altwt, altwtY, awGo, h, cond_true, Bool.not_true, Bool.false_and, kSel_f]] at hK
    exact fin_k tt_ok (rs := rs_alt_machine_altwt) rfl rfl hK [0, 1, 2] rfl rfl rfl rfl rfl rfl
  · rw [show Mach.altwt ⟨k, e, m⟩ = .of k (eOr e (m.err (stAt k.wptr)), m) by simp only [Mach.altwt, altwtY, awGo, h, h2, cond_true, cond_false, Bool.not_true, Bool.false_and, Bool.and_false, kSel_f]] at hK
    exact fin_k tt_ok (rs := rs_alt_machine_altwt) rfl rfl hK [0, 1, 2] rfl rfl rfl rfl rfl rfl
  · refine c_ways tt_ok ctMT_ok k_alt_machine_altwt rfl rfl ?_
    refine ⟨⟨⟨⟨m, ⟨rfl, rfl, rfl, rfl, hw⟩, ?_⟩, ⟨m, ⟨rfl, rfl, rfl, rfl, hw⟩, ?_⟩⟩, ⟨m, ⟨rfl, rfl, rfl, rfl, hw⟩, ?_⟩⟩, ⟨⟨⟨⟨m, ⟨rfl, rfl, rfl, rfl, hw⟩, ?_⟩, ⟨m, ⟨rfl, rfl, rfl, rfl, hw⟩, ?_⟩⟩, ⟨m, ⟨rfl, rfl, rfl, rfl, hw⟩, ?_⟩⟩, ⟨⟨m, ⟨rfl, rfl, rfl, rfl, hw⟩, ?_⟩, ⟨m, ⟨rfl, rfl, rfl, rfl, hw⟩, ?_⟩⟩⟩⟩
    all_goals
      refine e_run tt_ok ctMT_ok k_alt_machine_altwt [] 60 (by kernel_rfl) ?_
      refine ⟨fun h3 => ?_, fun h3 => ⟨_, ⟨rfl, rfl, rfl, rfl, hw⟩, _, ⟨rfl, rfl, rfl, rfl⟩, _, ⟨rfl, rfl, rfl, rfl, I32_wrap _⟩, ?_⟩⟩
      · rw [show Mach.altwt ⟨k, e, m⟩ = .of k (waitE k m, waitM k m) by simp only [Mach.altwt, altwtY, awGo, h, h2, show (waitE k m != 0) = true from h3, cond_true, cond_false, Bool.not_true, Bool.false_and, Bool.and_false, kSel_f]] at hK
        exact fin_k tt_ok (rs := rs_alt_machine_altwt) rfl rfl hK [0, 1, 2] rfl rfl rfl rfl rfl rfl
      · rw [show Mach.altwt ⟨k, e, m⟩ = .of (waitK k m) (emStore (emStore (eOr e (m.err (stAt k.wptr))) (waitM k m) k.wptr (-1)).1 (emStore (eOr e (m.err (stAt k.wptr))) (waitM k m) k.wptr (-1)).2 (stAt k.wptr) (-2147483646)) by simp only [Mach.altwt, altwtY, awGo, h, h2, show (waitE k m != 0) = false from h3, cond_true, cond_false, Bool.not_true, Bool.not_false, Bool.true_and, Bool.and_true, kSel_t]] at hK
        exact fin_ke tt_ok (rs := rs_alt_machine_altwt) rfl rfl hK [0, 1, 2] rfl rfl rfl rfl rfl rfl
end Go.Proofs

namespace Go.Proofs
open Go Go.Sx
set_option maxRecDepth 10000
def opOut (o : Int) : Out := .br (o == 67) (.ret (.t (.clo (.func 39) [] [])) []) (.br (o == 73) (.ret (.t (.clo (.func 40) [] [])) []) (.br (o == 72) (.ret (.t (.clo (.func 41) [] [])) []) (.br (o == 68) (.ret (.t (.clo (.func 42) [] [])) []) (.br (o == 48) (.ret (.t (.clo (.func 43) [] [])) []) (.br (o == 47) (.ret (.t (.clo (.func 44) [] [])) []) (.br (o == 69) (.ret (.t (.clo (.func 45) [] [])) []) (.ret (.t (.s (.raw .nilFunc))) [])))))))
theorem operation_c (o : Int) : Con Try.prog f_alt_operation [.s (.int .i32 o)] [] (opOut o) := by
  intro K hK
  refine enter fn_alt_operation rfl nt_alt_operation rfl rfl (fun φ w0 β0 F => ?_)
  refine c_run tt_ok (ct := []) trivial k_alt_operation [] 60 (by kernel_rfl) ?_
  refine ⟨fun h0 => ?_, fun h0 => ⟨fun h1 => ?_, fun h1 => ⟨fun h2 => ?_, fun h2 => ⟨fun h3 => ?_, fun h3 => ⟨fun h4 => ?_, fun h4 => ⟨fun h5 => ?_, fun h5 => ⟨fun h6 => ?_, fun h6 => ?_⟩⟩⟩⟩⟩⟩⟩
  · exact fin_k tt_ok (rs := rs_alt_operation) rfl rfl (hK.1 h0) [] rfl rfl rfl rfl rfl rfl
  · exact fin_k tt_ok (rs := rs_alt_operation) rfl rfl ((hK.2 h0).1 h1) [] rfl rfl rfl rfl rfl rfl
  · exact fin_k tt_ok (rs := rs_alt_operation) rfl rfl (((hK.2 h0).2 h1).1 h2) [] rfl rfl rfl rfl rfl rfl
  · exact fin_k tt_ok (rs := rs_alt_operation) rfl rfl ((((hK.2 h0).2 h1).2 h2).1 h3) [] rfl rfl rfl rfl rfl rfl
  · exact fin_k tt_ok (rs := rs_alt_operation) rfl rfl (((((hK.2 h0).2 h1).2 h2).2 h3).1 h4) [] rfl rfl rfl rfl rfl rfl
  · exact fin_k tt_ok (rs := rs_alt_operation) rfl rfl ((((((hK.2 h0).2 h1).2 h2).2 h3).2 h4).1 h5) [] rfl rfl rfl rfl rfl rfl
  · exact fin_k tt_ok (rs := rs_alt_operation) rfl rfl (((((((hK.2 h0).2 h1).2 h2).2 h3).2 h4).2 h5).1 h6) [] rfl rfl rfl rfl rfl rfl
  · exact fin_k tt_ok (rs := rs_alt_operation) rfl rfl (((((((hK.2 h0).2 h1).2 h2).2 h3).2 h4).2 h5).2 h6) [] rfl rfl rfl rfl rfl rfl
noncomputable abbrev eOperation : Ent := .st (conS (P := Try.prog) (f := f_alt_operation) fun cargs σ0 => match cargs, σ0 with
  | [.s (.int .i32 o)], [] => some ⟨opOut o, fun K h => operation_c o K h⟩
  | _, _ => none)
noncomputable abbrev ctOp : CT := [(f_alt_operation, eOperation)]
theorem ctOp_ok : CTok Try.prog ctOp := ⟨con_ok cal_alt_operation _, trivial⟩
def isOp (o : Int) : Bool := bif o == 67 then true else bif o == 73 then true else bif o == 72 then true else bif o == 68 then true else bif o == 48 then true else bif o == 47 then true else bif o == 69 then true else false
def mineB (fn arg : Int) : Bool := bif fn == 15 then isOp arg else false
theorem Mine_c (fn arg : Int) : Con Try.prog f_alt_Mine [.agg [.int .u8 fn, .int .i32 arg]] [] (.ret (.t (.s (.bool (mineB fn arg)))) []) := by
  intro K hK
  refine enter fn_alt_Mine rfl nt_alt_Mine rfl rfl (fun φ w0 β0 F => ?_)
  refine c_run tt_ok ctOp_ok k_alt_Mine [] 60 (by kernel_rfl) ?_
  refine ⟨fun h => ⟨fun h0 => ?_, fun h0 => ⟨fun h1 => ?_, fun h1 => ⟨fun h2 => ?_, fun h2 => ⟨fun h3 => ?_, fun h3 => ⟨fun h4 => ?_, fun h4 => ⟨fun h5 => ?_, fun h5 => ⟨fun h6 => ?_, fun h6 => ?_⟩⟩⟩⟩⟩⟩⟩, fun h => ⟨fun h' => absurd (h.symm.trans h') (by decide), fun _ => ⟨h, ?_⟩⟩⟩
  · refine fin_k tt_ok (rs := rs_alt_Mine) rfl rfl hK [] ?_ rfl rfl rfl rfl rfl
    rw [show mineB fn arg = true by simp only [mineB, isOp, h, h0, cond_true, cond_false]]
    rw [h]; rfl
  · refine fin_k tt_ok (rs := rs_alt_Mine) rfl rfl hK [] ?_ rfl rfl rfl rfl rfl
    rw [show mineB fn arg = true by simp only [mineB, isOp, h, h0, h1, cond_true, cond_false]]
    rw [h]; rfl
  · refine fin_k tt_ok (rs := rs_alt_Mine) rfl rfl hK [] ?_ rfl rfl rfl rfl rfl
    rw [show mineB fn arg = true by simp only [mineB, isOp, h, h0, h1, h2, cond_true, cond_false]]
    rw [h]; rfl
  · refine fin_k tt_ok (rs := rs_alt_Mine) rfl rfl hK [] ?_ rfl rfl rfl rfl rfl
    rw [show mineB fn arg = true by simp only [mineB, isOp, h, h0, h1, h2, h3, cond_true, cond_false]]
    rw [h]; rfl
  · refine fin_k tt_ok (rs := rs_alt_Mine) rfl rfl hK [] ?_ rfl rfl rfl rfl rfl
    rw [show mineB fn arg = true by simp only [mineB, isOp, h, h0, h1, h2, h3, h4, cond_true, cond_false]]
    rw [h]; rfl
  · refine fin_k tt_ok (rs := rs_alt_Mine) rfl rfl hK [] ?_ rfl rfl rfl rfl rfl
    rw [show mineB fn arg = true by simp only [mineB, isOp, h, h0, h1, h2, h3, h4, h5, cond_true, cond_false]]
    rw [h]; rfl
  · refine fin_k tt_ok (rs := rs_alt_Mine) rfl rfl hK [] ?_ rfl rfl rfl rfl rfl
    rw [show mineB fn arg = true by simp only [mineB, isOp, h, h0, h1, h2, h3, h4, h5, h6, cond_true, cond_false]]
    rw [h]; rfl
  · refine fin_k tt_ok (rs := rs_alt_Mine) rfl rfl hK [] ?_ rfl rfl rfl rfl rfl
    rw [show mineB fn arg = false by simp only [mineB, isOp, h, h0, h1, h2, h3, h4, h5, h6, cond_true, cond_false]]
    rw [h]; rfl
  · have h' : (fn == 15) = false := h
    refine fin_k tt_ok (rs := rs_alt_Mine) rfl rfl hK [] ?_ rfl rfl rfl rfl rfl
    rw [show mineB fn arg = false by simp only [mineB, h', cond_false]]; rfl
def spMine : List TV → Option (Prop × FV)
  | [.agg [.int .u8 fn, .int .i32 arg]] => some (True, .t (.s (.bool (mineB fn arg))))
  | _ => none
theorem ceMine : CEok Try.prog f_alt_Mine spMine := ⟨cal_alt_Mine, fun args p v h hp => by
  unfold spMine at h; split at h
  · cases h; exact (Mine_c _ _).pure
  · cases h⟩
noncomputable abbrev eM_alt : Ent := .st (conS (P := Try.prog) (f := f_alt_machine_alt) fun cargs σ0 => match cargs, σ0 with
  | [.s (.loc 0 0)], [.blk 77 (.loc 1 0 :: .int .i64 e :: cs), .blk 65 [.sl 2 0 n n'], .own 5 1 c xs] => withCore cs fun k hk => some ⟨.ex Ram fun m => .ask (n = m.l.length ∧ n' = m.l.length ∧ c = m.l.length ∧ xs = bytesI m.l)
      (.ret (.tup []) ((Mach.mk k e m).alt).chunks), fun K h => by
      obtain ⟨m, ⟨e1, e2, e3, e4⟩, h⟩ := h
      subst e1; subst e2; subst e3; subst e4; subst hk
      exact alt_c ⟨k, e, m⟩ K h⟩
  | _, _ => none)
noncomputable abbrev eM_enbs : Ent := .st (conS (P := Try.prog) (f := f_alt_machine_enbs) fun cargs σ0 => match cargs, σ0 with
  | [.s (.loc 0 0)], [.blk 77 (.loc 1 0 :: .int .i64 e :: cs), .blk 65 [.sl 2 0 n n'], .own 5 1 c xs] => withCore cs fun k hk => some ⟨.ex Ram fun m => .ask (n = m.l.length ∧ n' = m.l.length ∧ c = m.l.length ∧ xs = bytesI m.l)
      (.ret (.tup []) ((Mach.mk k e m).enbs).chunks), fun K h => by
      obtain ⟨m, ⟨e1, e2, e3, e4⟩, h⟩ := h
      subst e1; subst e2; subst e3; subst e4; subst hk
      exact enbs_c ⟨k, e, m⟩ K h⟩
  | _, _ => none)
noncomputable abbrev eM_enbc : Ent := .st (conS (P := Try.prog) (f := f_alt_machine_enbc) fun cargs σ0 => match cargs, σ0 with
  | [.s (.loc 0 0)], [.blk 77 (.loc 1 0 :: .int .i64 e :: cs), .blk 65 [.sl 2 0 n n'], .own 5 1 c xs] => withCore cs fun k hk => some ⟨.ex Ram fun m => .ask (n = m.l.length ∧ n' = m.l.length ∧ c = m.l.length ∧ xs = bytesI m.l ∧ I32 k.b)
      (.ret (.tup []) ((Mach.mk k e m).enbc).chunks), fun K h => by
      obtain ⟨m, ⟨e1, e2, e3, e4, h1⟩, h⟩ := h
      subst e1; subst e2; subst e3; subst e4; subst hk
      exact enbc_c ⟨k, e, m⟩ h1 K h⟩
  | _, _ => none)
noncomputable abbrev eM_altwt : Ent := .st (conS (P := Try.prog) (f := f_alt_machine_altwt) fun cargs σ0 => match cargs, σ0 with
  | [.s (.loc 0 0)], [.blk 77 (.loc 1 0 :: .int .i64 e :: cs), .blk 65 [.sl 2 0 n n'], .own 5 1 c xs] => withCore cs fun k hk => some ⟨.ex Ram fun m => .ask (n = m.l.length ∧ n' = m.l.length ∧ c = m.l.length ∧ xs = bytesI m.l ∧ I32 k.wptr)
      (.ret (.tup []) ((Mach.mk k e m).altwt).chunks), fun K h => by
      obtain ⟨m, ⟨e1, e2, e3, e4, h1⟩, h⟩ := h
      subst e1; subst e2; subst e3; subst e4; subst hk
      exact altwt_c ⟨k, e, m⟩ h1 K h⟩
  | _, _ => none)
noncomputable abbrev eM_diss : Ent := .st (conS (P := Try.prog) (f := f_alt_machine_diss) fun cargs σ0 => match cargs, σ0 with
  | [.s (.loc 0 0)], [.blk 77 (.loc 1 0 :: .int .i64 e :: cs), .blk 65 [.sl 2 0 n n'], .own 5 1 c xs] => withCore cs fun k hk => some ⟨.ex Ram fun m => .ask (n = m.l.length ∧ n' = m.l.length ∧ c = m.l.length ∧ xs = bytesI m.l ∧ I32 k.wptr)
      (.ret (.tup []) ((Mach.mk k e m).diss).chunks), fun K h => by
      obtain ⟨m, ⟨e1, e2, e3, e4, h1⟩, h⟩ := h
      subst e1; subst e2; subst e3; subst e4; subst hk
      exact diss_c ⟨k, e, m⟩ h1 K h⟩
  | _, _ => none)
noncomputable abbrev eM_disc : Ent := .st (conS (P := Try.prog) (f := f_alt_machine_disc) fun cargs σ0 => match cargs, σ0 with
  | [.s (.loc 0 0)], [.blk 77 (.loc 1 0 :: .int .i64 e :: cs), .blk 65 [.sl 2 0 n n'], .own 5 1 c xs] => withCore cs fun k hk => some ⟨.ex Ram fun m => .ask (n = m.l.length ∧ n' = m.l.length ∧ c = m.l.length ∧ xs = bytesI m.l ∧ I32 k.c ∧ I32 k.wptr)
      (.ret (.tup []) ((Mach.mk k e m).disc).chunks), fun K h => by
      obtain ⟨m, ⟨e1, e2, e3, e4, h1, h2⟩, h⟩ := h
      subst e1; subst e2; subst e3; subst e4; subst hk
      exact disc_c ⟨k, e, m⟩ h1 h2 K h⟩
  | _, _ => none)
noncomputable abbrev eM_altend : Ent := .st (conS (P := Try.prog) (f := f_alt_machine_altend) fun cargs σ0 => match cargs, σ0 with
  | [.s (.loc 0 0)], [.blk 77 (.loc 1 0 :: .int .i64 e :: cs), .blk 65 [.sl 2 0 n n'], .own 5 1 c xs] => withCore cs fun k hk => some ⟨.ex Ram fun m => .ask (n = m.l.length ∧ n' = m.l.length ∧ c = m.l.length ∧ xs = bytesI m.l ∧ I32 k.wptr)
      (.ret (.tup []) ((Mach.mk k e m).altend).chunks), fun K h => by
      obtain ⟨m, ⟨e1, e2, e3, e4, h1⟩, h⟩ := h
      subst e1; subst e2; subst e3; subst e4; subst hk
      exact altend_c ⟨k, e, m⟩ h1 K h⟩
  | _, _ => none)
end Go.Proofs

namespace Go.Proofs
open Go Go.Sx
set_option maxRecDepth 10000
def linkedB (k : Core) (o : Int) : Bool := bif bif bif o == 72 then k.a != 0 else false then decide (k.b < -2147483616) else false then true else bif bif o == 47 then k.b != 0 else false then decide (k.c < -2147483616) else false
theorem linked_c (k : Core) (o : Int) : Con Try.prog f_alt_linked [.agg k.sv, .s (.int .i32 o)] [] (.ret (.t (.s (.bool (linkedB k o)))) []) := by
  intro K hK
  refine enter fn_alt_linked rfl nt_alt_linked rfl rfl (fun φ w0 β0 F => ?_)
  refine c_run tt_ok (ct := []) trivial k_alt_linked [] 60 (by kernel_rfl) ?_
  exact fin_k tt_ok (rs := rs_alt_linked) rfl rfl hK [] rfl rfl rfl rfl rfl rfl
def spLinked : List TV → Option (Prop × FV)
  | [.agg cs, .s (.int .i32 o)] => withCore cs fun k _ => some (True, .t (.s (.bool (linkedB k o))))
  | _ => none
theorem ceLinked : CEok Try.prog f_alt_linked spLinked := ⟨cal_alt_linked, fun args p v h hp => by
  unfold spLinked at h; split at h
  · obtain ⟨k, hk, h⟩ := withCore_some h
    cases h; subst hk; exact (linked_c _ _).pure
  · cases h⟩
def opM (k : Core) (m : Ram) (o : Int) : Mach := bif o == 67 then Mach.alt ⟨k, 0, m⟩ else bif o == 73 then Mach.enbs ⟨k, 0, m⟩ else bif o == 72 then Mach.enbc ⟨k, 0, m⟩ else bif o == 68 then Mach.altwt ⟨k, 0, m⟩ else bif o == 48 then Mach.diss ⟨k, 0, m⟩ else bif o == 47 then Mach.disc ⟨k, 0, m⟩ else bif o == 69 then Mach.altend ⟨k, 0, m⟩ else ⟨k, 0, m⟩
def finR (x : Mach) : Core × Int × Ram := (kSel (x.e != 0) .zero x.k, bif x.e != 0 then 4 else 0, x.m)
def execR (k : Core) (m : Ram) (fn o : Int) : Core × Int × Ram :=
  bif k.pri.fdiv 2 != 0 then (.zero, 2, m) else bif !mineB fn o then (.zero, 280, m) else bif (bif !k.busy then true else linkedB k o) then (.zero, 8, m) else finR (opM k m o)
noncomputable abbrev ctEx : CT := [(f_mem_Mem_Size, eSizeT), (f_alt_Mine, .pure spMine), (f_alt_linked, .pure spLinked), (f_alt_operation, eOperation), (f_alt_machine_alt, eM_alt), (f_alt_machine_enbs, eM_enbs), (f_alt_machine_enbc, eM_enbc), (f_alt_machine_altwt, eM_altwt), (f_alt_machine_diss, eM_diss), (f_alt_machine_disc, eM_disc), (f_alt_machine_altend, eM_altend)]
theorem ctEx_ok : CTok Try.prog ctEx := ⟨con_ok cal_mem_Mem_Size _, ceMine, ceLinked, con_ok cal_alt_operation _, con_ok cal_alt_machine_alt _, con_ok cal_alt_machine_enbs _, con_ok cal_alt_machine_enbc _, con_ok cal_alt_machine_altwt _, con_ok cal_alt_machine_diss _, con_ok cal_alt_machine_disc _, con_ok cal_alt_machine_altend _, trivial⟩
theorem Exec_c (k : Core) (m : Ram) (fn o : Int) (hok : k.ok) : Con Try.prog f_alt_Exec [.agg k.sv, .s (.loc 0 0), .agg [.int .u8 fn, .int .i32 o]] [mBox m.l.length, mOwn m.l]
    (.ret (.tup [.agg (execR k m fn o).1.sv, .s (.int .i64 (execR k m fn o).2.1)]) [mBox (execR k m fn o).2.2.l.length, mOwn (execR k m fn o).2.2.l]) := by
  intro K hK
  refine enter fn_alt_Exec rfl nt_alt_Exec rfl rfl (fun φ w0 β0 F => ?_)
  refine c_run tt_ok ctEx_ok k_alt_Exec [] 60 (by kernel_rfl) ?_
  refine ⟨fun h => ?_, fun _ => ⟨fun h => ?_, fun h => ⟨trivial, fun h2 => ?_, fun h2 => ⟨fun _ => trivial, fun h3 => ?_, fun h3 => ?_⟩⟩⟩⟩
  · exfalso; have h0 := m.lo; have := of_decide_eq_true h; omega
  · replace h : (k.pri.fdiv 2 != 0) = true := h
    rw [show execR k m fn o = (.zero, 2, m) by simp only [execR, h, cond_true]] at hK
    exact fin_k tt_ok (rs := rs_alt_Exec) rfl rfl hK [0, 1] rfl rfl rfl rfl rfl rfl
  · replace h : (k.pri.fdiv 2 != 0) = false := h
    rw [show execR k m fn o = (.zero, 280, m) by simp only [execR, h, h2, cond_true, cond_false]] at hK
    exact fin_k tt_ok (rs := rs_alt_Exec) rfl rfl hK [0, 1] rfl rfl rfl rfl rfl rfl
  · replace h : (k.pri.fdiv 2 != 0) = false := h
    rw [show execR k m fn o = (.zero, 8, m) by simp only [execR, h, h2, show (bif !k.busy then true else linkedB k o) = true from h3, cond_true, cond_false]] at hK
    exact fin_k tt_ok (rs := rs_alt_Exec) rfl rfl hK [0, 1] rfl rfl rfl rfl rfl rfl
  · replace h : (k.pri.fdiv 2 != 0) = false := h
    rw [show execR k m fn o = finR (opM k m o) by simp only [execR, h, h2, show (bif !k.busy then true else linkedB k o) = false from h3, cond_false]] at hK
    refine ⟨fun g0 => ⟨m, ⟨rfl, rfl, rfl, rfl⟩, fun he => ?_, fun he => ?_⟩, fun g0 => ⟨fun g1 => ⟨m, ⟨rfl, rfl, rfl, rfl⟩, fun he => ?_, fun he => ?_⟩, fun g1 => ⟨fun g2 => ⟨m, ⟨rfl, rfl, rfl, rfl, hok.b⟩, fun he => ?_, fun he => ?_⟩, fun g2 => ⟨fun g3 => ⟨m, ⟨rfl, rfl, rfl, rfl, hok.wptr⟩, fun he => ?_, fun he => ?_⟩, fun g3 => ⟨fun g4 => ⟨m, ⟨rfl, rfl, rfl, rfl, hok.wptr⟩, fun he => ?_, fun he => ?_⟩, fun g4 => ⟨fun g5 => ⟨m, ⟨rfl, rfl, rfl, rfl, hok.c, hok.wptr⟩, fun he => ?_, fun he => ?_⟩, fun g5 => ⟨fun g6 => ⟨m, ⟨rfl, rfl, rfl, rfl, hok.wptr⟩, fun he => ?_, fun he => ?_⟩, fun g6 => ?_⟩⟩⟩⟩⟩⟩⟩
    · rw [show finR (opM k m o) = (.zero, 4, (Mach.alt ⟨k, 0, m⟩).m) by simp only [opM, g0, cond_true, cond_false]; simp only [finR, show ((Mach.alt ⟨k, 0, m⟩).e != 0) = true from he, cond_true, cond_false, kSel_t]] at hK
      exact fin_k tt_ok (rs := rs_alt_Exec) rfl rfl hK [0, 1] rfl rfl rfl rfl rfl rfl
    · rw [show finR (opM k m o) = ((Mach.alt ⟨k, 0, m⟩).k, 0, (Mach.alt ⟨k, 0, m⟩).m) by simp only [opM, g0, cond_true, cond_false]; simp only [finR, show ((Mach.alt ⟨k, 0, m⟩).e != 0) = false from he, cond_true, cond_false, kSel_f]] at hK
      exact fin_k tt_ok (rs := rs_alt_Exec) rfl rfl hK [0, 1] rfl rfl rfl rfl rfl rfl
    · rw [show finR (opM k m o) = (.zero, 4, (Mach.enbs ⟨k, 0, m⟩).m) by simp only [opM, g0, g1, cond_true, cond_false]; simp only [finR, show ((Mach.enbs ⟨k, 0, m⟩).e != 0) = true from he, cond_true, cond_false, kSel_t]] at hK
      exact fin_k tt_ok (rs := rs_alt_Exec) rfl rfl hK [0, 1] rfl rfl rfl rfl rfl rfl
    · rw [show finR (opM k m o) = ((Mach.enbs ⟨k, 0, m⟩).k, 0, (Mach.enbs ⟨k, 0, m⟩).m) by simp only [opM, g0, g1, cond_true, cond_false]; simp only [finR, show ((Mach.enbs ⟨k, 0, m⟩).e != 0) = false from he, cond_true, cond_false, kSel_f]] at hK
      exact fin_k tt_ok (rs := rs_alt_Exec) rfl rfl hK [0, 1] rfl rfl rfl rfl rfl rfl
    · rw [show finR (opM k m o) = (.zero, 4, (Mach.enbc ⟨k, 0, m⟩).m) by simp only [opM, g0, g1, g2, cond_true, cond_false]; simp only [finR, show ((Mach.enbc ⟨k, 0, m⟩).e != 0) = true from he, cond_true, cond_false, kSel_t]] at hK
      exact fin_k tt_ok (rs := rs_alt_Exec) rfl rfl hK [0, 1] rfl rfl rfl rfl rfl rfl
    · rw [show finR (opM k m o) = ((Mach.enbc ⟨k, 0, m⟩).k, 0, (Mach.enbc ⟨k, 0, m⟩).m) by simp only [opM, g0, g1, g2, cond_true, cond_false]; simp only [finR, show ((Mach.enbc ⟨k, 0, m⟩).e != 0) = false from he, cond_true, cond_false, kSel_f]] at hK
      exact fin_k tt_ok (rs := rs_alt_Exec) rfl rfl hK [0, 1] rfl rfl rfl rfl rfl rfl
    · rw [show finR (opM k m o) = (.zero, 4, (Mach.altwt ⟨k, 0, m⟩).m) by simp only [opM, g0, g1, g2, g3, cond_true, cond_false]; simp only [finR, show ((Mach.altwt ⟨k, 0, m⟩).e != 0) = true from he, cond_true, cond_false, kSel_t]] at hK
      exact fin_k tt_ok (rs := rs_alt_Exec) rfl rfl hK [0, 1] rfl rfl rfl rfl rfl rfl
    · rw [show finR (opM k m o) = ((Mach.altwt ⟨k, 0, m⟩).k, 0, (Mach.altwt ⟨k, 0, m⟩).m) by simp only [opM, g0, g1, g2, g3, cond_true, cond_false]; simp only [finR, show ((Mach.altwt ⟨k, 0, m⟩).e != 0) = false from he, cond_true, cond_false, kSel_f]] at hK
      exact fin_k tt_ok (rs := rs_alt_Exec) rfl rfl hK [0, 1] rfl rfl rfl rfl rfl rfl
    · rw [show finR (opM k m o) = (.zero, 4, (Mach.diss ⟨k, 0, m⟩).m) by simp only [opM, g0, g1, g2, g3, g4, cond_true, cond_false]; simp only [finR, show ((Mach.diss ⟨k, 0, m⟩).e != 0) = true from he, cond_true, cond_false, kSel_t]] at hK
      exact fin_k tt_ok (rs := rs_alt_Exec) rfl rfl hK [0, 1] rfl rfl rfl rfl rfl rfl
    · rw [show finR (opM k m o) = ((Mach.diss ⟨k, 0, m⟩).k, 0, (Mach.diss ⟨k, 0, m⟩).m) by simp only [opM, g0, g1, g2, g3, g4, cond_true, cond_false]; simp only [finR, show ((Mach.diss ⟨k, 0, m⟩).e != 0) = false from he, cond_true, cond_false, kSel_f]] at hK
      exact fin_k tt_ok (rs := rs_alt_Exec) rfl rfl hK [0, 1] rfl rfl rfl rfl rfl rfl
    · rw [show finR (opM k m o) = (.zero, 4, (Mach.disc ⟨k, 0, m⟩).m) by simp only [opM, g0, g1, g2, g3, g4, g5, cond_true, cond_false]; simp only [finR, show ((Mach.disc ⟨k, 0, m⟩).e != 0) = true from he, cond_true, cond_false, kSel_t]] at hK
      exact fin_k tt_ok (rs := rs_alt_Exec) rfl rfl hK [0, 1] rfl rfl rfl rfl rfl rfl
    · rw [show finR (opM k m o) = ((Mach.disc ⟨k, 0, m⟩).k, 0, (Mach.disc ⟨k, 0, m⟩).m) by simp only [opM, g0, g1, g2, g3, g4, g5, cond_true, cond_false]; simp only [finR, show ((Mach.disc ⟨k, 0, m⟩).e != 0) = false from he, cond_true, cond_false, kSel_f]] at hK
      exact fin_k tt_ok (rs := rs_alt_Exec) rfl rfl hK [0, 1] rfl rfl rfl rfl rfl rfl
    · rw [show finR (opM k m o) = (.zero, 4, (Mach.altend ⟨k, 0, m⟩).m) by simp only [opM, g0, g1, g2, g3, g4, g5, g6, cond_true, cond_false]; simp only [finR, show ((Mach.altend ⟨k, 0, m⟩).e != 0) = true from he, cond_true, cond_false, kSel_t]] at hK
      exact fin_k tt_ok (rs := rs_alt_Exec) rfl rfl hK [0, 1] rfl rfl rfl rfl rfl rfl
    · rw [show finR (opM k m o) = ((Mach.altend ⟨k, 0, m⟩).k, 0, (Mach.altend ⟨k, 0, m⟩).m) by simp only [opM, g0, g1, g2, g3, g4, g5, g6, cond_true, cond_false]; simp only [finR, show ((Mach.altend ⟨k, 0, m⟩).e != 0) = false from he, cond_true, cond_false, kSel_f]] at hK
      exact fin_k tt_ok (rs := rs_alt_Exec) rfl rfl hK [0, 1] rfl rfl rfl rfl rfl rfl
    · exfalso
      have : mineB fn o = false := by unfold mineB isOp; simp only [g0, g1, g2, g3, g4, g5, g6, cond_false]; cases fn == 15 <;> rfl
      rw [this] at h2; exact absurd h2 (by decide)
end Go.Proofs

namespace Go.Proofs
open Go Go.Sx
set_option maxRecDepth 10000
def Core.abc : Core → Int → Int → Int → Core
  | ⟨_, _, _, iptr, wptr, pri, busy, err, hoe, halted, f0, f1, b0, b1, t0, t1, k0, k1, ticks, slice, sis, sa, sb, sc, siptr, swptr, serr, sslice⟩, a, b, c => ⟨a, b, c, iptr, wptr, pri, busy, err, hoe, halted, f0, f1, b0, b1, t0, t1, k0, k1, ticks, slice, sis, sa, sb, sc, siptr, swptr, serr, sslice⟩
theorem abc_ok {k : Core} (h : k.ok) {a b c : Int} (ha : I32 a) (hb : I32 b) (hc : I32 c) : (k.abc a b c).ok := by
  cases k; exact ⟨ha, hb, hc, h.4, h.5, h.6, h.7, h.8, h.9, h.10, h.11, h.12, h.13, h.14, h.15, h.16, h.17, h.18, h.19, h.20, h.21, h.22⟩
def i32B (n : Int) : Bool := decide (-2147483648 ≤ n) && decide (n ≤ 2147483647)
theorem i32B_ok {n : Int} (h : i32B n = true) : I32 n := by unfold i32B at h; unfold I32; simp at h; omega
def Core.okB (k : Core) : Bool := i32B k.a && i32B k.b && i32B k.c && i32B k.iptr && i32B k.wptr && (decide (-9223372036854775808 ≤ k.pri) && decide (k.pri ≤ 9223372036854775807)) && i32B k.f0 && i32B k.f1 && i32B k.b0 && i32B k.b1 && i32B k.t0 && i32B k.t1 && i32B k.k0 && i32B k.k1 && i32B k.ticks && i32B k.slice && i32B k.sa && i32B k.sb && i32B k.sc && i32B k.siptr && i32B k.swptr && i32B k.sslice
theorem okB_ok {k : Core} (h : k.okB = true) : k.ok := by
  unfold Core.okB at h
  simp only [Bool.and_eq_true] at h
  obtain ⟨⟨⟨⟨⟨⟨⟨⟨⟨⟨⟨⟨⟨⟨⟨⟨⟨⟨⟨⟨⟨h1, h2⟩, h3⟩, h4⟩, h5⟩, h6⟩, h7⟩, h8⟩, h9⟩, h10⟩, h11⟩, h12⟩, h13⟩, h14⟩, h15⟩, h16⟩, h17⟩, h18⟩, h19⟩, h20⟩, h21⟩, h22⟩ := h
  have h6' := of_decide_eq_true h6.1
  have h6'' := of_decide_eq_true h6.2
  exact ⟨i32B_ok h1, i32B_ok h2, i32B_ok h3, i32B_ok h4, i32B_ok h5, ⟨h6', h6''⟩, i32B_ok h7, i32B_ok h8, i32B_ok h9, i32B_ok h10, i32B_ok h11, i32B_ok h12, i32B_ok h13, i32B_ok h14, i32B_ok h15, i32B_ok h16, i32B_ok h17, i32B_ok h18, i32B_ok h19, i32B_ok h20, i32B_ok h21, i32B_ok h22⟩
/-- alt.Exec: what comes out is told by the caller, who shows that it is what execR says. -/
noncomputable abbrev eExec : Ent := .st (conS (P := Try.prog) (f := f_alt_Exec) fun cargs σ0 => match cargs, σ0 with
  | [.agg cs, .s (.loc 0 0), .agg [.int .u8 fn, .int .i32 o]], [.blk 65 [.sl 1 0 n n'], .own 5 1 c xs] => withCore cs fun k hk => some ⟨.ex (Ram × Core × Int × Ram) fun p => .ask (n = p.1.l.length ∧ n' = p.1.l.length ∧ c = p.1.l.length ∧ xs = bytesI p.1.l ∧ k.ok ∧ execR k p.1 fn o = p.2)
      (.ret (.tup [.agg p.2.1.sv, .s (.int .i64 p.2.2.1)]) [mBox p.2.2.2.l.length, mOwn p.2.2.2.l]), fun K h => by
      obtain ⟨⟨m, k', e', m'⟩, ⟨e1, e2, e3, e4, h1, h2⟩, h⟩ := h
      dsimp only at e1 e2 e3 e4 h2 h
      subst e1; subst e2; subst e3; subst e4; subst hk
      refine Exec_c k m fn o h1 K ?_
      rw [h2]; exact h⟩
  | _, _ => none)
noncomputable abbrev ctLE : CT := [(f_alt_Exec, eExec)]
theorem ctLE_ok : CTok Try.prog ctLE := ⟨con_ok cal_alt_Exec _, trivial⟩
theorem exec_c (k : Core) (m : Ram) (o a b c : Int) (k' : Core) (e' : Int) (m' : Ram) (hok : k.ok) (ha : I32 a) (hb : I32 b) (hc : I32 c) (hx : execR (k.abc a b c) m 15 o = (k', e', m')) :
    Con Try.prog f_l31_exec [.agg k.sv, .s (.loc 0 0), .s (.int .i32 o), .s (.int .i32 a), .s (.int .i32 b), .s (.int .i32 c)] [mBox m.l.length, mOwn m.l]
    (.ret (.tup [.agg k'.sv, .s (.int .i64 e')]) [mBox m'.l.length, mOwn m'.l]) := by
  intro K hK
  have hq := abc_ok hok ha hb hc
  obtain ⟨q0, q1, q2, q3, q4, q5, q6, q7, q8, q9, q10, q11, q12, q13, q14, q15, q16, q17, q18, q19, q20, q21, q22, q23, q24, q25, q26, q27⟩ := k
  obtain ⟨p0, p1, p2, p3, p4, p5, p6, p7, p8, p9, p10, p11, p12, p13, p14, p15, p16, p17, p18, p19, p20, p21, p22, p23, p24, p25, p26, p27⟩ := k'
  refine enter fn_l31_exec rfl nt_l31_exec rfl rfl (fun φ w0 β0 F => ?_)
  refine c_run tt_ok ctLE_ok k_l31_exec [] 60 (by kernel_rfl) ?_
  refine ⟨(m, ⟨p0, p1, p2, p3, p4, p5, p6, p7, p8, p9, p10, p11, p12, p13, p14, p15, p16, p17, p18, p19, p20, p21, p22, p23, p24, p25, p26, p27⟩, e', m'), ⟨rfl, rfl, rfl, rfl, hq, hx⟩, ?_⟩
  exact fin_k tt_ok (rs := rs_l31_exec) rfl rfl hK [0, 1] rfl rfl rfl rfl rfl rfl
noncomputable abbrev eExecL : Ent := .st (conS (P := Try.prog) (f := f_l31_exec) fun cargs σ0 => match cargs, σ0 with
  | [.agg cs, .s (.loc 0 0), .s (.int .i32 o), .s (.int .i32 a), .s (.int .i32 b), .s (.int .i32 cc)], [.blk 65 [.sl 1 0 n n'], .own 5 1 c xs] => withCore cs fun k hk => some ⟨.ex (Ram × Core × Int × Ram) fun p => .ask (n = p.1.l.length ∧ n' = p.1.l.length ∧ c = p.1.l.length ∧ xs = bytesI p.1.l ∧ (k.ok ∧ I32 a ∧ I32 b ∧ I32 cc) ∧ execR (k.abc a b cc) p.1 15 o = p.2)
      (.ret (.tup [.agg p.2.1.sv, .s (.int .i64 p.2.2.1)]) [mBox p.2.2.2.l.length, mOwn p.2.2.2.l]), fun K h => by
      obtain ⟨⟨m, k', e', m'⟩, ⟨e1, e2, e3, e4, ⟨h1, h3, h4, h5⟩, h2⟩, h⟩ := h
      dsimp only at e1 e2 e3 e4 h2 h
      subst e1; subst e2; subst e3; subst e4; subst hk
      exact exec_c k m o a b cc k' e' m' h1 h3 h4 h5 h2 K h⟩
  | _, _ => none)
noncomputable abbrev ctLW : CT := [(f_mem_Mem_Word, eWordT)]
theorem ctLW_ok : CTok Try.prog ctLW := ⟨con_ok cal_mem_Mem_Word _, trivial⟩
theorem lword_c (m : Ram) (a : Int) (ha : I32 a) : Con Try.prog f_l31_word [.s (.loc 0 0), .s (.int .i32 a)] [mBox m.l.length, mOwn m.l] (.ret (.t (.s (.int .i32 (m.word a)))) [mBox m.l.length, mOwn m.l]) := by
  intro K hK
  refine enter fn_l31_word rfl nt_l31_word rfl rfl (fun φ w0 β0 F => ?_)
  refine c_run tt_ok ctLW_ok k_l31_word [] 60 (by kernel_rfl) ?_
  refine ⟨m, ⟨rfl, rfl, rfl, rfl, ha⟩, ?_⟩
  exact fin_k tt_ok (rs := rs_l31_word) rfl rfl hK [0, 1] rfl rfl rfl rfl rfl rfl
noncomputable abbrev eLword : Ent := .st (conS (P := Try.prog) (f := f_l31_word) fun cargs σ0 => match cargs, σ0 with
  | [.s (.loc 0 0), .s (.int .i32 a)], [.blk 65 [.sl 1 0 n n'], .own 5 1 c xs] => some ⟨.ex Ram fun m => .ask (n = m.l.length ∧ n' = m.l.length ∧ c = m.l.length ∧ xs = bytesI m.l ∧ I32 a)
      (.ret (.t (.s (.int .i32 (m.word a)))) [mBox m.l.length, mOwn m.l]), fun K h => by
      obtain ⟨m, ⟨e1, e2, e3, e4, h1⟩, h⟩ := h
      subst e1; subst e2; subst e3; subst e4
      exact lword_c m a h1 K h⟩
  | _, _ => none)
def Ram.z : Ram := ⟨List.replicate 1024 0, by simp, by simp, by simp, by intro b hb; rw [List.mem_replicate] at hb; omega⟩
noncomputable abbrev eNew : Ent := .st (conS (P := Try.prog) (f := f_mem_New) fun cargs σ0 => match cargs, σ0 with
  | [.s (.int .i64 n)], [] => some ⟨.br (mayM n) (.ret (.tup [.s (.loc 0 0), .s (.int .i64 0)]) [mBox n.toNat, .own 5 1 n.toNat (bytesI (List.replicate n.toNat 0))]) (.ret (.tup [.s (.raw (.pointer none)), .s (.int .i64 2)]) []), fun K h => New_c n K h⟩
  | _, _ => none)
noncomputable abbrev ctNw : CT := [(f_mem_New, eNew)]
theorem ctNw_ok : CTok Try.prog ctNw := ⟨con_ok cal_mem_New _, trivial⟩
def rdK : Core := ⟨0, 0, 0, -2147483048, -2147483520, 1, true, false, false, false, 0, 0, 0, 0, 0, 0, 0, 0, 0, 0, false, 0, 0, 0, 0, 0, false, 0⟩
theorem rdK_ok : rdK.ok := okB_ok (by decide +kernel)
theorem ready_c : Con Try.prog f_l31_ready [] [] (.ret (.tup [.agg rdK.sv, .s (.loc 0 0)]) [.blk 65 [.sl 1 0 1024 1024], .own 5 1 1024 (bytesI Ram.z.l)]) := by
  intro K hK
  refine enter fn_l31_ready rfl nt_l31_ready rfl rfl (fun φ w0 β0 F => ?_)
  refine c_run tt_ok ctNw_ok k_l31_ready [] 60 (by kernel_rfl) ?_
  refine ⟨fun _ => ?_, fun h => absurd h (by decide)⟩
  exact fin_k tt_ok (rs := rs_l31_ready) rfl rfl hK [1, 2] rfl rfl rfl rfl rfl rfl
noncomputable abbrev eReady : Ent := .st (conS (P := Try.prog) (f := f_l31_ready) fun cargs σ0 => match cargs, σ0 with
  | [], [] => some ⟨.ret (.tup [.agg rdK.sv, .s (.loc 0 0)]) [.blk 65 [.sl 1 0 1024 1024], .own 5 1 1024 (bytesI Ram.z.l)], fun K h => ready_c K h⟩
  | _, _ => none)
end Go.Proofs

namespace Go.Proofs
open Go Go.Sx
set_option maxRecDepth 10000
def wm0 : Ram := Ram.z.set (-2147483448) (-2147483648)
def wm1 : Ram := wm0.set (-2147483444) (-2147483136)
def wk0 : Core := ⟨0, 0, 0, -2147483048, -2147483520, 1, true, false, false, false, 0, 0, 0, 0, 0, 0, 0, 0, 0, 0, false, 0, 0, 0, 0, 0, false, 0⟩
def wm2 : Ram := (execR (rdK.abc (0) (0) (0)) wm1 15 67).2.2
theorem wx0 : execR (rdK.abc (0) (0) (0)) wm1 15 67 = (wk0, 0, wm2) := by kernel_rfl
def wk1 : Core := ⟨1, 9, 9, -2147483048, -2147483520, 1, true, false, false, false, 0, 0, 0, 0, 0, 0, 0, 0, 0, 0, false, 0, 0, 0, 0, 0, false, 0⟩
def wm3 : Ram := (execR (rdK.abc (1) (-2147483448) (9)) wm2 15 72).2.2
theorem wx1 : execR (rdK.abc (1) (-2147483448) (9)) wm2 15 72 = (wk1, 0, wm3) := by kernel_rfl
def wk2 : Core := ⟨1, 9, 9, -2147483048, -2147483520, 1, true, false, false, false, 0, 0, 0, 0, 0, 0, 0, 0, 0, 0, false, 0, 0, 0, 0, 0, false, 0⟩
def wm4 : Ram := (execR (rdK.abc (1) (-2147483444) (9)) wm3 15 72).2.2
theorem wx2 : execR (rdK.abc (1) (-2147483444) (9)) wm3 15 72 = (wk2, 0, wm4) := by kernel_rfl
def wk3 : Core := ⟨0, 0, 0, -2147483048, -2147483520, 1, true, false, false, false, 0, 0, 0, 0, 0, 0, 0, 0, 0, 0, false, 0, 0, 0, 0, 0, false, 0⟩
def wm5 : Ram := (execR (rdK.abc (0) (0) (0)) wm4 15 68).2.2
theorem wx3 : execR (rdK.abc (0) (0) (0)) wm4 15 68 = (wk3, 0, wm5) := by kernel_rfl
def wk4 : Core := ⟨0, 0, 0, -2147483048, -2147483520, 1, true, false, false, false, 0, 0, 0, 0, 0, 0, 0, 0, 0, 0, false, 0, 0, 0, 0, 0, false, 0⟩
def wm6 : Ram := (execR (rdK.abc (5) (1) (-2147483448)) wm5 15 47).2.2
theorem wx4 : execR (rdK.abc (5) (1) (-2147483448)) wm5 15 47 = (wk4, 0, wm6) := by kernel_rfl
def wk5 : Core := ⟨1, 0, 0, -2147483048, -2147483520, 1, true, false, false, false, 0, 0, 0, 0, 0, 0, 0, 0, 0, 0, false, 0, 0, 0, 0, 0, false, 0⟩
def wm7 : Ram := (execR (rdK.abc (7) (1) (-2147483444)) wm6 15 47).2.2
theorem wx5 : execR (rdK.abc (7) (1) (-2147483444)) wm6 15 47 = (wk5, 0, wm7) := by kernel_rfl
def wk6 : Core := ⟨0, 0, 0, -2147483041, -2147483520, 1, true, false, false, false, 0, 0, 0, 0, 0, 0, 0, 0, 0, 0, false, 0, 0, 0, 0, 0, false, 0⟩
def wm8 : Ram := (execR (rdK.abc (0) (0) (0)) wm7 15 69).2.2
theorem wx6 : execR (rdK.abc (0) (0) (0)) wm7 15 69 = (wk6, 0, wm8) := by kernel_rfl
noncomputable abbrev ctWk : CT := [(f_l31_ready, eReady), (f_mem_Mem_SetWord, eSetWordT), (f_l31_exec, eExecL), (f_l31_word, eLword)]
theorem ctWk_ok : CTok Try.prog ctWk := ⟨con_ok cal_l31_ready _, con_ok cal_mem_Mem_SetWord _, con_ok cal_l31_exec _, con_ok cal_l31_word _, trivial⟩
theorem works_c : Con Try.prog f_l31_works [] [] (.ret (.t (.s (.bool true))) []) := by
  intro K hK
  refine enter fn_l31_works rfl nt_l31_works rfl rfl (fun φ w0 β0 F => ?_)
  refine c_run tt_ok ctWk_ok k_l31_works [] 60 (by kernel_rfl) ?_
  refine ⟨Ram.z, ⟨by decide +kernel, by decide +kernel, by decide +kernel, rfl, i32B_ok (by decide +kernel)⟩, wm0, ⟨rfl, rfl, rfl, rfl, i32B_ok (by decide +kernel)⟩, ?_⟩
  refine ⟨(wm1, wk0, 0, wm2), ⟨rfl, rfl, rfl, rfl, ⟨rdK_ok, i32B_ok (by decide +kernel), i32B_ok (by decide +kernel), i32B_ok (by decide +kernel)⟩, wx0⟩, ?_⟩
  repeat (first | (refine ⟨fun _ => ?_, fun h => absurd h (by decide +kernel)⟩) | (refine ⟨wm2, ⟨rfl, rfl, rfl, rfl, i32B_ok (by decide +kernel)⟩, ?_⟩))
  refine ⟨(wm2, wk1, 0, wm3), ⟨rfl, rfl, rfl, rfl, ⟨rdK_ok, i32B_ok (by decide +kernel), i32B_ok (by decide +kernel), i32B_ok (by decide +kernel)⟩, wx1⟩, ?_⟩
  repeat (first | (refine ⟨fun _ => ?_, fun h => absurd h (by decide +kernel)⟩) | (refine ⟨wm3, ⟨rfl, rfl, rfl, rfl, i32B_ok (by decide +kernel)⟩, ?_⟩))
  refine ⟨(wm3, wk2, 0, wm4), ⟨rfl, rfl, rfl, rfl, ⟨rdK_ok, i32B_ok (by decide +kernel), i32B_ok (by decide +kernel), i32B_ok (by decide +kernel)⟩, wx2⟩, ?_⟩
  repeat (first | (refine ⟨fun _ => ?_, fun h => absurd h (by decide +kernel)⟩) | (refine ⟨wm4, ⟨rfl, rfl, rfl, rfl, i32B_ok (by decide +kernel)⟩, ?_⟩))
  refine ⟨(wm4, wk3, 0, wm5), ⟨rfl, rfl, rfl, rfl, ⟨rdK_ok, i32B_ok (by decide +kernel), i32B_ok (by decide +kernel), i32B_ok (by decide +kernel)⟩, wx3⟩, ?_⟩
  repeat (first | (refine ⟨fun _ => ?_, fun h => absurd h (by decide +kernel)⟩) | (refine ⟨wm5, ⟨rfl, rfl, rfl, rfl, i32B_ok (by decide +kernel)⟩, ?_⟩))
  refine ⟨(wm5, wk4, 0, wm6), ⟨rfl, rfl, rfl, rfl, ⟨rdK_ok, i32B_ok (by decide +kernel), i32B_ok (by decide +kernel), i32B_ok (by decide +kernel)⟩, wx4⟩, ?_⟩
  repeat (first | (refine ⟨fun _ => ?_, fun h => absurd h (by decide +kernel)⟩) | (refine ⟨wm6, ⟨rfl, rfl, rfl, rfl, i32B_ok (by decide +kernel)⟩, ?_⟩))
  refine ⟨(wm6, wk5, 0, wm7), ⟨rfl, rfl, rfl, rfl, ⟨rdK_ok, i32B_ok (by decide +kernel), i32B_ok (by decide +kernel), i32B_ok (by decide +kernel)⟩, wx5⟩, ?_⟩
  repeat (first | (refine ⟨fun _ => ?_, fun h => absurd h (by decide +kernel)⟩) | (refine ⟨wm7, ⟨rfl, rfl, rfl, rfl, i32B_ok (by decide +kernel)⟩, ?_⟩))
  refine ⟨(wm7, wk6, 0, wm8), ⟨rfl, rfl, rfl, rfl, ⟨rdK_ok, i32B_ok (by decide +kernel), i32B_ok (by decide +kernel), i32B_ok (by decide +kernel)⟩, wx6⟩, ?_⟩
  refine fin_k tt_ok (rs := rs_l31_works) rfl rfl hK [] ?_ rfl rfl rfl rfl rfl
  refine t1b ?_
  decide +kernel
def spWorks : List TV → Option (Prop × FV)
  | [] => some (True, .t (.s (.bool true)))
  | _ => none
theorem ceWorks : CEok Try.prog f_l31_works spWorks := ⟨cal_l31_works, fun args p v h hp => by
  unfold spWorks at h; split at h
  · cases h; exact works_c.pure
  · cases h⟩
end Go.Proofs

namespace Go.Proofs
open Go Go.Sx
set_option maxRecDepth 10000
theorem RMine_c (fn arg : Int) : Con Try.prog f_r31_Mine [.agg [.int .u8 fn, .int .i32 arg]] [] (.ret (.t (.s (.bool (mineB fn arg)))) []) := by
  intro K hK
  refine enter fn_r31_Mine rfl nt_r31_Mine rfl rfl (fun φ w0 β0 F => ?_)
  refine c_run tt_ok (ct := []) trivial k_r31_Mine [] 60 (by kernel_rfl) ?_
  refine ⟨fun h => ?_, fun h => ?_⟩
  · have h' : (fn == 15) = false := by simpa using h
    rw [show mineB fn arg = false by simp only [mineB, h', cond_false]] at hK
    exact fin_k tt_ok (rs := rs_r31_Mine) rfl rfl hK [] rfl rfl rfl rfl rfl rfl
  · have h' : (fn == 15) = true := by simpa using h
    refine fin_k tt_ok (rs := rs_r31_Mine) rfl rfl hK [] ?_ rfl rfl rfl rfl rfl
    refine t1b ?_
    simp only [mineB, isOp, h', cond_true]
    generalize (arg == 67) = q1
    generalize (arg == 73) = q2
    generalize (arg == 72) = q3
    generalize (arg == 68) = q4
    generalize (arg == 48) = q5
    generalize (arg == 47) = q6
    generalize (arg == 69) = q7
    cases q1 <;> cases q2 <;> cases q3 <;> cases q4 <;> cases q5 <;> cases q6 <;> cases q7 <;> rfl
def spRMine : List TV → Option (Prop × FV)
  | [.agg [.int .u8 fn, .int .i32 arg]] => some (True, .t (.s (.bool (mineB fn arg))))
  | _ => none
theorem ceRMine : CEok Try.prog f_r31_Mine spRMine := ⟨cal_r31_Mine, fun args p v h hp => by
  unfold spRMine at h; split at h
  · cases h; exact (RMine_c _ _).pure
  · cases h⟩
noncomputable abbrev ctAM : CT := [(f_alt_Mine, .pure spMine), (f_r31_Mine, .pure spRMine), (f_l31_works, .pure spWorks)]
theorem ctAM_ok : CTok Try.prog ctAM := ⟨ceMine, ceRMine, ceWorks, trivial⟩
theorem AltMine_c (fn arg o : Int) : Con Try.prog f_l31_AltMine [.agg [.int .u8 fn, .int .i32 arg], .s (.int .u8 o)] [] (.ret (.t (.s (.bool true))) []) := by
  intro K hK
  refine enter fn_l31_AltMine rfl nt_l31_AltMine rfl rfl (fun φ w0 β0 F => ?_)
  refine c_run tt_ok ctAM_ok k_l31_AltMine [] 60 (by kernel_rfl) ?_
  have e : ∀ a : Bool, (a == a) = true := by decide
  refine ⟨trivial, trivial, fun _ => trivial, fun _ => trivial, fun _ => trivial, ?_⟩
  refine fin_k tt_ok (rs := rs_l31_AltMine) rfl rfl hK [] ?_ rfl rfl rfl rfl rfl
  refine t1b ?_
  rw [e, e]; rfl
end Go.Proofs

namespace Go.Proofs
open Go Go.Sx
set_option maxRecDepth 10000
/-- 1024 bytes that begin with these. -/
def memL (l : List Int) (z : Nat) : List Int := l.take 1024 ++ List.replicate z 0
theorem memL_length (l : List Int) (z : Nat) : (memL l z).length = min 1024 l.length + z := by simp [memL]
theorem memory_c (l : List Int) (cap : Nat) (hc : l.length ≤ cap) (hm : cap ≤ maxLen) : Con Try.prog f_l31_memory [.s (.sl 0 0 l.length cap)] [.view (bytesI l)]
    (.all Nat (fun c => 1024 ≤ c) fun c => .ret (.t (.s (.sl 1 0 1024 c))) [.view (bytesI l), .own 5 1 c (bytesI (memL l (1024 - min l.length 1024)))]) := by
  intro K hK
  have hm' : cap ≤ 9223372036854775807 := hm
  refine enter fn_l31_memory rfl nt_l31_memory rfl rfl (fun φ w0 β0 F => ?_)
  refine c_run tt_ok (ct := []) trivial k_l31_memory [] 60 (by kernel_rfl) ?_
  refine ⟨0, min l.length 1024, ⟨_, _, rfl, rfl, rfl, ?_⟩, ⟨by omega, by omega⟩, ?_⟩
  · show (if (1024 : Int) < (l.length : Int) then (1024 : Int) else (l.length : Int)) = _
    split <;> omega
  refine ⟨⟨by simp [seg], one_seg (one_seg (bytesI_one _)), by simp only [maxLen]; omega, by omega⟩, fun c1 h1 h1' => ?_⟩
  show WpC _ _ _ _ _
  refine c_loop (α := Nat × Nat) (fun x => x.1 ≤ 1024 - min l.length 1024 ∧ min l.length 1024 + x.1 ≤ x.2) (fun x => 1024 - x.1)
    (fun x => [(0, .t (.s (.sl 0 0 l.length cap)), none), (3, .t (.s (.sl 1 0 (memL l x.1).length x.2)), none)])
    (fun x => [.view (bytesI l), .own 5 1 x.2 (bytesI (memL l x.1))]) (0, c1) ⟨Nat.zero_le _, by simpa using h1⟩ ?_ ?_
  · refine into [0, 3] ⟨⟨_, rfl, rfl⟩, ⟨_, rfl, ?_⟩, trivial⟩ ⟨_, rfl, ?_⟩ rfl rfl rfl rfl
    · simp [FV.rn, TV.rn, SV.rn, memL, Nat.min_comm]
    · simp only [seg_bytesI, memL, List.drop_zero]
      have e : ((List.take ((min l.length 1024 - 0) * 1) (List.drop (0 + 0 * 1) l)).take ((min l.length 1024 - 0) * 1)) = List.take 1024 l ++ List.replicate 0 0 := by
        simp
        rcases Nat.le_total l.length 1024 with h | h
        · rw [Nat.min_eq_left h, List.take_of_length_le (by simp), List.take_of_length_le (Nat.le_refl _), List.take_of_length_le h]
        · rw [Nat.min_eq_right h, List.take_take, Nat.min_self]
      rw [e]; rfl
  · rintro ⟨i, c⟩ ⟨hi, hic⟩
    simp only at hi hic
    dsimp only
    refine c_run' tt_ok (ct := []) trivial k_l31_memory [] 60 (by kernel_rfl) (by kernel_rfl) ?_
    refine ⟨fun h4 => ?_, fun h4 => ?_⟩
    · simp only [decide_eq_true_eq, memL_length] at h4
      refine ⟨⟨rfl, by simp, by simp [memL] <;> omega, one_u rfl, by simp [maxLen, memL]; omega, by simp [memL]; omega⟩, fun c1 hc1 hc2 => ?_⟩
      refine e_again (i + 1, c1) ⟨by simp only; omega, by simp [memL] at hc1; simp only; omega⟩ (by simp; omega) (into [0, 3] ⟨⟨_, rfl, rfl⟩, ⟨_, rfl, ?_⟩, trivial⟩ ⟨_, rfl, ?_⟩ rfl rfl rfl rfl)
      · simp [FV.rn, TV.rn, SV.rn, memL]; omega
      · have e : bytesI (memL l i) ++ seg [(SV.int IntKind.u8 0).cv] 0 1 = bytesI (memL l (i + 1)) := by
          rw [show seg [(SV.int IntKind.u8 0).cv] 0 1 = bytesI [0] from rfl, ← bytesI_append]
          unfold memL; rw [List.append_assoc, List.replicate_succ']
        rw [← e]; rfl
    · simp only [decide_eq_false_iff_not, memL_length] at h4
      have e : i = 1024 - min l.length 1024 := by omega
      subst e
      refine fin_k tt_ok (rs := rs_l31_memory) rfl rfl (hK c ?_) [0, 1] ?_ rfl rfl rfl rfl rfl
      · omega
      · rw [memL_length, show min 1024 l.length + (1024 - min l.length 1024) = 1024 by omega]; rfl
end Go.Proofs

namespace Go.Proofs
open Go Go.Sx
set_option maxRecDepth 10000
theorem u8_fit {x : Int} (h : (Lit.int .u8 x).wf = true) : 0 ≤ x ∧ x < 256 := by
  simp [Lit.wf, IntKind.min, IntKind.max, IntKind.signed, IntKind.bits] at h
  omega
theorem i64_fit {x : Int} (h : (Lit.int .i64 x).wf = true) : -9223372036854775808 ≤ x ∧ x ≤ 9223372036854775807 := by
  simp [Lit.wf, IntKind.min, IntKind.max, IntKind.signed, IntKind.bits] at h
  omega
def memR (l : List Int) (hl : ∀ b ∈ l, 0 ≤ b ∧ b < 256) : Ram := ⟨memL l (1024 - min l.length 1024), by rw [memL_length]; omega, by rw [memL_length]; omega, by rw [memL_length]; omega, by
  intro b hb; unfold memL at hb; rcases List.mem_append.1 hb with h | h
  · exact hl b (List.mem_of_mem_take h)
  · rw [List.mem_replicate] at h; omega⟩
theorem memR_length (l : List Int) (hl) : (memR l hl).l.length = 1024 := by show (memL l _).length = _; rw [memL_length]; omega
theorem From_o (l : List Int) (cap : Nat) : Con Try.prog f_mem_From [.s (.sl 0 0 l.length cap)] [.own 5 1 cap (bytesI l)] (.br (mayM l.length)
    (.ret (.tup [.s (.loc 1 0), .s (.int .i64 0)]) [.own 5 1 cap (bytesI l), .blk 65 [.sl 2 0 l.length l.length], mOwn l])
    (.ret (.tup [.s (.raw (.pointer none)), .s (.int .i64 2)]) [.own 5 1 cap (bytesI l)])) := by
  intro K ⟨hK1, hK2⟩
  refine enter fn_mem_From rfl nt_mem_From rfl rfl (fun φ w0 β0 F => ?_)
  refine c_run tt_ok ctM_ok k_mem_From [] 60 (by kernel_rfl) ?_
  refine ⟨fun h => ?_, fun h => ?_⟩
  · have hb : mayM l.length = false := by simpa using h
    exact fin_k tt_ok (rs := rs_mem_From) rfl rfl (hK2 hb) [0] rfl rfl rfl rfl rfl rfl
  · have hb : mayM l.length = true := by simpa using h
    obtain ⟨k, e, h1, h2⟩ := mayM_nat hb
    refine ⟨l.length, ⟨rfl, rfl, by simp only [maxLen]; omega, by omega⟩, ?_⟩
    refine ⟨l.length, ⟨by simp, by simp, by simp, by rw [seg_bytesI]; exact bytesI_one _⟩, ?_⟩
    refine fin_k tt_ok (rs := rs_mem_From) rfl rfl (hK1 hb) [0, 2, 1] rfl ?_ rfl rfl rfl rfl
    show pickL [Ch.own 5 1 cap (bytesI l), Ch.own 5 1 l.length (setV (List.replicate l.length (Value.int .u8 0)) 0 (seg (bytesI l) 0 l.length)), Ch.blk 65 [SV.sl 1 0 l.length l.length]] [0, 2, 1] = _
    rw [copy_all l _ (by simp)]; rfl
noncomputable abbrev eMemory : Ent := .st (conS (P := Try.prog) (f := f_l31_memory) fun cargs σ0 => match cargs, σ0 with
  | [.s (.sl 0 0 n cap)], [.view xs] => some ⟨.ex (List Int) fun l => .ask (xs = bytesI l ∧ n = l.length ∧ l.length ≤ cap ∧ cap ≤ maxLen ∧ ∀ b ∈ l, 0 ≤ b ∧ b < 256)
      (.all Nat (fun c => 1024 ≤ c) fun c => .ret (.t (.s (.sl 1 0 1024 c))) [.view (bytesI l), .own 5 1 c (bytesI (memL l (1024 - min l.length 1024)))]), fun K h => by
      obtain ⟨l, ⟨e1, e2, h1, h2, h3⟩, h⟩ := h
      subst e1; subst e2
      exact memory_c l cap h1 h2 K h⟩
  | _, _ => none)
noncomputable abbrev eFromT : Ent := .st (conS (P := Try.prog) (f := f_mem_From) fun cargs σ0 => match cargs, σ0 with
  | [.s (.sl 0 0 n cap)], [.own 5 1 c xs] => some ⟨.ex Ram fun m => .ask (xs = bytesI m.l ∧ n = m.l.length ∧ c = cap)
      (.ret (.tup [.s (.loc 1 0), .s (.int .i64 0)]) [.own 5 1 cap (bytesI m.l), .blk 65 [.sl 2 0 m.l.length m.l.length], mOwn m.l]), fun K h => by
      obtain ⟨m, ⟨e1, e2, e3⟩, h⟩ := h
      subst e1; subst e2; subst e3
      refine From_o m.l _ K ⟨fun _ => h, fun hb => ?_⟩
      exfalso
      have h1 := m.lo
      have h2 := m.hi
      have h3 := m.al
      unfold mayM at hb
      simp [show (m.l.length : Int) ≥ 1024 by omega, show (m.l.length : Int) ≤ 65536 by omega, (tmod4 _).1 (show (0 : Int) ≤ m.l.length by omega)] at hb
      omega⟩
  | _, _ => none)
noncomputable abbrev eBytesT : Ent := .st (conS (P := Try.prog) (f := f_mem_Mem_Bytes) fun cargs σ0 => match cargs, σ0 with
  | [.s (.loc 0 0)], [.blk 65 [.sl 1 0 n n'], .own 5 1 c xs] => some ⟨.ex Ram fun m => .ask (xs = bytesI m.l ∧ n = m.l.length ∧ n' = m.l.length ∧ c = m.l.length)
      (.ret (.t (.s (.sl 2 0 m.l.length m.l.length))) [mBox m.l.length, mOwn m.l, mOwn m.l]), fun K h => by
      obtain ⟨m, ⟨e1, e2, e3, e4⟩, h⟩ := h
      subst e1; subst e2; subst e3; subst e4
      have := m.lo
      exact Bytes_c m.l m.hi (by omega) K h⟩
  | _, _ => none)
theorem and1_i64 (v : Int) : bits .and .i64 v 1 = v % 2 := by
  have e : bits .and .i64 v 1 = IntKind.i64.wrap ((BitVec.ofInt 64 v &&& BitVec.ofInt 64 1).toNat : Int) := rfl
  have hn : ∀ i, i < 64 → (BitVec.ofInt 64 1).getLsbD i = decide (i < 1) := by decide
  have e1 : BitVec.ofInt 64 v &&& BitVec.ofInt 64 1 = ((BitVec.ofInt 64 v).setWidth 1).setWidth 64 := by
    apply BitVec.eq_of_getLsbD_eq
    intro i hi
    rw [BitVec.getLsbD_and, hn i hi]
    simp only [BitVec.getLsbD_setWidth]
    by_cases h2 : i < 1 <;> simp [h2, hi]
  have e2 : ((((BitVec.ofInt 64 v).setWidth 1).setWidth 64).toNat : Int) = v % 2 := by
    rw [BitVec.toNat_setWidth, BitVec.toNat_setWidth, BitVec.toNat_ofInt]
    have : ((2 ^ 64 : Nat) : Int) = 18446744073709551616 := rfl
    rw [this]; omega
  rw [e, e1, e2, IntKind.wrap_i64]; omega
theorem exec_false (k : Core) (m : Ram) (hp : (k.pri.fdiv 2 != 0) = false) (hb : k.busy = true) :
    (k.a = 0 → execR k m 15 73 = (k, 0, m)) ∧ (k.a = 0 → execR k m 15 72 = ({ k with b := k.c }, 0, m)) ∧ (k.b = 0 → execR k m 15 47 = ({ k with a := 0, b := 0, c := 0 }, 0, m)) ∧ (k.b = 0 → execR k m 15 48 = ({ k with a := 0, b := k.c }, 0, m)) := by
  have h73 : mineB 15 73 = true := by decide
  have h72 : mineB 15 72 = true := by decide
  have h47 : mineB 15 47 = true := by decide
  have h48 : mineB 15 48 = true := by decide
  refine ⟨fun h => ?_, fun h => ?_, fun h => ?_, fun h => ?_⟩
  · have hl : linkedB k 73 = false := by unfold linkedB; simp
    have ho : opM k m 73 = ⟨k, 0, m⟩ := by simp [opM, Mach.enbs, enbsY, Mach.of, h]
    simp [execR, hp, h73, hb, hl, ho, finR, kSel]
    cases k; simp_all
  · have hl : linkedB k 72 = false := by unfold linkedB; simp [h]
    have ho : opM k m 72 = ⟨{ k with b := k.c }, 0, m⟩ := by simp [opM, Mach.enbc, enbcY, Mach.of, h]
    simp [execR, hp, h72, hb, hl, ho, finR, kSel]
  · have hl : linkedB k 47 = false := by unfold linkedB; simp [h]
    have ho : opM k m 47 = ⟨{ k with a := 0, b := 0, c := 0 }, 0, m⟩ := by simp [opM, Mach.disc, discA, discY, Mach.of, h]
    simp [execR, hp, h47, hb, hl, ho, finR, kSel]
  · have hl : linkedB k 48 = false := by unfold linkedB; simp
    have ho : opM k m 48 = ⟨{ k with a := 0, b := k.c }, 0, m⟩ := by simp [opM, Mach.diss, Mach.of, h]
    simp [execR, hp, h48, hb, hl, ho, finR, kSel]
noncomputable abbrev ctAF : CT := [(f_l31_memory, eMemory), (f_mem_From, eFromT), (f_l31_exec, eExecL), (f_mem_Mem_Bytes, eBytesT), (f_l31_works, .pure spWorks)]
theorem ctAF_ok : CTok Try.prog ctAF := ⟨con_ok cal_l31_memory _, con_ok cal_mem_From _, con_ok cal_l31_exec _, con_ok cal_mem_Mem_Bytes _, ceWorks, trivial⟩
theorem AltFalse_c (k : Core) (l : List Int) (cap : Nat) (w ch : Int) (hok : k.ok) (hl : ∀ b ∈ l, 0 ≤ b ∧ b < 256) (hc : l.length ≤ cap) (hm : cap ≤ maxLen) (hch : I32 ch) :
    Con Try.prog f_l31_AltFalse [.agg k.sv, .s (.sl 0 0 l.length cap), .s (.int .u8 w), .s (.int .i32 ch)] [.view (bytesI l)] (.ret (.t (.s (.bool true))) [.view (bytesI l)]) := by
  intro K hK
  obtain ⟨q0, q1, q2, q3, q4, q5, q6, q7, q8, q9, q10, q11, q12, q13, q14, q15, q16, q17, q18, q19, q20, q21, q22, q23, q24, q25, q26, q27⟩ := k
  have hpr := and1_i64 q5
  have hpp : ((bits .and .i64 q5 1).fdiv 2 != 0) = false := by
    rw [hpr]
    rcases (show q5 % 2 = 0 ∨ q5 % 2 = 1 by omega) with h | h <;> rw [h] <;> decide
  have hok2 : Core.ok ⟨q0, q1, q2, q3, (IntKind.i32.wrap (-2147483584 + IntKind.i32.wrap (4 * IntKind.i32.wrap (w.tmod 200)))), (bits BinOp.and IntKind.i64 q5 1), true, q7, q8, q9, q10, q11, q12, q13, q14, q15, q16, q17, q18, q19, q20, q21, q22, q23, q24, q25, q26, q27⟩ := ⟨hok.1, hok.2, hok.3, hok.4, I32_wrap _, by constructor <;> (show _ ≤ _) <;> simp only [hpr] <;> omega, hok.7, hok.8, hok.9, hok.10, hok.11, hok.12, hok.13, hok.14, hok.15, hok.16, hok.17, hok.18, hok.19, hok.20, hok.21, hok.22⟩
  refine enter fn_l31_AltFalse rfl nt_l31_AltFalse rfl rfl (fun φ w0 β0 F => ?_)
  refine c_run tt_ok ctAF_ok k_l31_AltFalse [] 60 (by kernel_rfl) ?_
  refine ⟨l, ⟨rfl, rfl, hc, hm, hl⟩, fun c1 hc1 => ?_⟩
  refine ⟨memR l hl, ⟨rfl, (memR_length l hl).symm, rfl⟩, ?_⟩
  refine ⟨(memR l hl, ⟨0, ch, 3, q3, (IntKind.i32.wrap (-2147483584 + IntKind.i32.wrap (4 * IntKind.i32.wrap (w.tmod 200)))), (bits BinOp.and IntKind.i64 q5 1), true, q7, q8, q9, q10, q11, q12, q13, q14, q15, q16, q17, q18, q19, q20, q21, q22, q23, q24, q25, q26, q27⟩, 0, memR l hl), ⟨rfl, rfl, rfl, rfl, ⟨hok2, i32B_ok (by decide +kernel), hch, i32B_ok (by decide +kernel)⟩, (exec_false ⟨0, ch, 3, q3, (IntKind.i32.wrap (-2147483584 + IntKind.i32.wrap (4 * IntKind.i32.wrap (w.tmod 200)))), (bits BinOp.and IntKind.i64 q5 1), true, q7, q8, q9, q10, q11, q12, q13, q14, q15, q16, q17, q18, q19, q20, q21, q22, q23, q24, q25, q26, q27⟩ (memR l hl) hpp rfl).1 rfl⟩, ?_⟩
  refine ⟨(memR l hl, ⟨0, 3, 3, q3, (IntKind.i32.wrap (-2147483584 + IntKind.i32.wrap (4 * IntKind.i32.wrap (w.tmod 200)))), (bits BinOp.and IntKind.i64 q5 1), true, q7, q8, q9, q10, q11, q12, q13, q14, q15, q16, q17, q18, q19, q20, q21, q22, q23, q24, q25, q26, q27⟩, 0, memR l hl), ⟨rfl, rfl, rfl, rfl, ⟨hok2, i32B_ok (by decide +kernel), hch, i32B_ok (by decide +kernel)⟩, (exec_false ⟨0, ch, 3, q3, (IntKind.i32.wrap (-2147483584 + IntKind.i32.wrap (4 * IntKind.i32.wrap (w.tmod 200)))), (bits BinOp.and IntKind.i64 q5 1), true, q7, q8, q9, q10, q11, q12, q13, q14, q15, q16, q17, q18, q19, q20, q21, q22, q23, q24, q25, q26, q27⟩ (memR l hl) hpp rfl).2.1 rfl⟩, ?_⟩
  refine ⟨(memR l hl, ⟨0, 0, 0, q3, (IntKind.i32.wrap (-2147483584 + IntKind.i32.wrap (4 * IntKind.i32.wrap (w.tmod 200)))), (bits BinOp.and IntKind.i64 q5 1), true, q7, q8, q9, q10, q11, q12, q13, q14, q15, q16, q17, q18, q19, q20, q21, q22, q23, q24, q25, q26, q27⟩, 0, memR l hl), ⟨rfl, rfl, rfl, rfl, ⟨hok2, i32B_ok (by decide +kernel), i32B_ok (by decide +kernel), hch⟩, (exec_false ⟨5, 0, ch, q3, (IntKind.i32.wrap (-2147483584 + IntKind.i32.wrap (4 * IntKind.i32.wrap (w.tmod 200)))), (bits BinOp.and IntKind.i64 q5 1), true, q7, q8, q9, q10, q11, q12, q13, q14, q15, q16, q17, q18, q19, q20, q21, q22, q23, q24, q25, q26, q27⟩ (memR l hl) hpp rfl).2.2.1 rfl⟩, ?_⟩
  refine ⟨(memR l hl, ⟨0, ch, ch, q3, (IntKind.i32.wrap (-2147483584 + IntKind.i32.wrap (4 * IntKind.i32.wrap (w.tmod 200)))), (bits BinOp.and IntKind.i64 q5 1), true, q7, q8, q9, q10, q11, q12, q13, q14, q15, q16, q17, q18, q19, q20, q21, q22, q23, q24, q25, q26, q27⟩, 0, memR l hl), ⟨rfl, rfl, rfl, rfl, ⟨hok2, i32B_ok (by decide +kernel), i32B_ok (by decide +kernel), hch⟩, (exec_false ⟨5, 0, ch, q3, (IntKind.i32.wrap (-2147483584 + IntKind.i32.wrap (4 * IntKind.i32.wrap (w.tmod 200)))), (bits BinOp.and IntKind.i64 q5 1), true, q7, q8, q9, q10, q11, q12, q13, q14, q15, q16, q17, q18, q19, q20, q21, q22, q23, q24, q25, q26, q27⟩ (memR l hl) hpp rfl).2.2.2 rfl⟩, ?_⟩
  have hsg : seg (bytesI (memR l hl).l) 0 1024 = bytesI (memR l hl).l := by
    rw [seg_bytesI, List.drop_zero, List.take_of_length_le (by rw [memR_length]; exact Nat.le_refl _)]
  refine c_ways tt_ok ctAF_ok k_l31_AltFalse rfl rfl ?_
  have hsm : seg (bytesI (memR l hl).l) 0 (memR l hl).l.length = bytesI (memR l hl).l := by rw [seg_bytesI, List.drop_zero, List.take_length]
  repeat' (first | exact trivial | (refine ⟨(memR l hl).l, fun _ => ⟨hsg, memR_length l hl⟩, ?_⟩) | (refine ⟨(memR l hl).l, fun _ => ⟨hsm, rfl⟩, ?_⟩) | (refine ⟨memR l hl, ⟨rfl, rfl, rfl, rfl⟩, ?_⟩) | (refine And.intro ?_ ?_) | (intro h; simp at h; done) | (refine fun _ => ?_))
  all_goals
    refine e_run tt_ok ctAF_ok k_l31_AltFalse [] 60 (by kernel_rfl) ?_
    refine fin_k tt_ok (rs := rs_l31_AltFalse) rfl rfl hK [0] ?_ rfl rfl rfl rfl rfl
    refine t1b ?_
    simp
end Go.Proofs

namespace Go.Proofs
open Go Go.Sx
set_option maxRecDepth 10000
def kn0 : Ram := Ram.z
def kk0 : Core := ⟨0, 0, 0, -2147483048, -2147483520, 1, true, false, false, false, 0, 0, 0, 0, 0, 0, 0, 0, 0, 0, false, 0, 0, 0, 0, 0, false, 0⟩
def kc0 : Core := ⟨0, 0, 0, 0, 0, 0, false, false, false, false, 0, 0, 0, 0, 0, 0, 0, 0, 0, 0, false, 0, 0, 0, 0, 0, false, 0⟩
def kn1 : Ram := (execR (kk0.abc (1) (-2147483617) (0)) kn0 15 72).2.2
theorem kx0 : execR (kk0.abc (1) (-2147483617) (0)) kn0 15 72 = (kc0, 8, kn1) := by kernel_rfl
theorem ko0 : kk0.ok := okB_ok (by decide +kernel)
def kk1 : Core := ⟨0, 0, 0, -2147483048, -2147483520, 1, true, false, false, false, 0, 0, 0, 0, 0, 0, 0, 0, 0, 0, false, 0, 0, 0, 0, 0, false, 0⟩
def kc1 : Core := ⟨1, 0, 0, -2147483048, -2147483520, 1, true, false, false, false, 0, 0, 0, 0, 0, 0, 0, 0, 0, 0, false, 0, 0, 0, 0, 0, false, 0⟩
def kn2 : Ram := (execR (kk1.abc (1) (-2147483616) (0)) kn1 15 72).2.2
theorem kx1 : execR (kk1.abc (1) (-2147483616) (0)) kn1 15 72 = (kc1, 0, kn2) := by kernel_rfl
theorem ko1 : kk1.ok := okB_ok (by decide +kernel)
def kk2 : Core := ⟨0, 0, 0, -2147483048, -2147483520, 1, true, false, false, false, 0, 0, 0, 0, 0, 0, 0, 0, 0, 0, false, 0, 0, 0, 0, 0, false, 0⟩
def kc2 : Core := ⟨0, 0, 0, 0, 0, 0, false, false, false, false, 0, 0, 0, 0, 0, 0, 0, 0, 0, 0, false, 0, 0, 0, 0, 0, false, 0⟩
def kn3 : Ram := (execR (kk2.abc (1) (1) (-2147483648)) kn2 15 47).2.2
theorem kx2 : execR (kk2.abc (1) (1) (-2147483648)) kn2 15 47 = (kc2, 8, kn3) := by kernel_rfl
theorem ko2 : kk2.ok := okB_ok (by decide +kernel)
def kk3 : Core := ⟨0, 0, 0, -2147483048, -2147483520, 1, true, false, false, false, 0, 0, 0, 0, 0, 0, 0, 0, 0, 0, false, 0, 0, 0, 0, 0, false, 0⟩
def kc3 : Core := ⟨0, 0, 0, 0, 0, 0, false, false, false, false, 0, 0, 0, 0, 0, 0, 0, 0, 0, 0, false, 0, 0, 0, 0, 0, false, 0⟩
def kn4 : Ram := (execR (kk3.abc (1) (-2147482624) (0)) kn3 15 72).2.2
theorem kx3 : execR (kk3.abc (1) (-2147482624) (0)) kn3 15 72 = (kc3, 4, kn4) := by kernel_rfl
theorem ko3 : kk3.ok := okB_ok (by decide +kernel)
def kk4 : Core := ⟨0, 0, 0, -2147483048, -2147483520, 1, true, false, false, false, 0, 0, 0, 0, 0, 0, 0, 0, 0, 0, false, 0, 0, 0, 0, 0, false, 0⟩
def kc4 : Core := ⟨0, 0, 0, 0, 0, 0, false, false, false, false, 0, 0, 0, 0, 0, 0, 0, 0, 0, 0, false, 0, 0, 0, 0, 0, false, 0⟩
def kn5 : Ram := (execR (kk4.abc (1) (-2147483448) (0)) kn4 15 71).2.2
theorem kx4 : execR (kk4.abc (1) (-2147483448) (0)) kn4 15 71 = (kc4, 280, kn5) := by kernel_rfl
theorem ko4 : kk4.ok := okB_ok (by decide +kernel)
def kk5 : Core := ⟨0, 0, 0, -2147483048, -2147483520, 1, false, false, false, false, 0, 0, 0, 0, 0, 0, 0, 0, 0, 0, false, 0, 0, 0, 0, 0, false, 0⟩
def kc5 : Core := ⟨0, 0, 0, 0, 0, 0, false, false, false, false, 0, 0, 0, 0, 0, 0, 0, 0, 0, 0, false, 0, 0, 0, 0, 0, false, 0⟩
def kn6 : Ram := (execR (kk5.abc (0) (0) (0)) kn5 15 67).2.2
theorem kx5 : execR (kk5.abc (0) (0) (0)) kn5 15 67 = (kc5, 8, kn6) := by kernel_rfl
theorem ko5 : kk5.ok := okB_ok (by decide +kernel)
def kk6 : Core := ⟨0, 0, 0, -2147483048, -2147483520, -1, true, false, false, false, 0, 0, 0, 0, 0, 0, 0, 0, 0, 0, false, 0, 0, 0, 0, 0, false, 0⟩
def kc6 : Core := ⟨0, 0, 0, 0, 0, 0, false, false, false, false, 0, 0, 0, 0, 0, 0, 0, 0, 0, 0, false, 0, 0, 0, 0, 0, false, 0⟩
def kn7 : Ram := (execR (kk6.abc (0) (0) (0)) kn6 15 67).2.2
theorem kx6 : execR (kk6.abc (0) (0) (0)) kn6 15 67 = (kc6, 2, kn7) := by kernel_rfl
theorem ko6 : kk6.ok := okB_ok (by decide +kernel)
def kk7 : Core := ⟨0, 0, 0, -2147483048, -2147483632, 1, true, false, false, false, 0, 0, 0, 0, 0, 0, 0, 0, 0, 0, false, 0, 0, 0, 0, 0, false, 0⟩
def kc7 : Core := ⟨0, 0, 0, -2147483048, -2147483632, 1, true, false, false, false, 0, 0, 0, 0, 0, 0, 0, 0, 0, 0, false, 0, 0, 0, 0, 0, false, 0⟩
def kn8 : Ram := (execR (kk7.abc (0) (0) (0)) kn7 15 67).2.2
theorem kx7 : execR (kk7.abc (0) (0) (0)) kn7 15 67 = (kc7, 0, kn8) := by kernel_rfl
theorem ko7 : kk7.ok := okB_ok (by decide +kernel)
def kk8 : Core := ⟨0, 0, 0, -2147483048, -2147483632, 1, true, false, false, false, 0, 0, 0, 0, 0, 0, 0, 0, 0, 0, false, 0, 0, 0, 0, 0, false, 0⟩
def kc8 : Core := ⟨0, 0, 0, 0, 0, 0, false, false, false, false, 0, 0, 0, 0, 0, 0, 0, 0, 0, 0, false, 0, 0, 0, 0, 0, false, 0⟩
def kn9 : Ram := (execR (kk8.abc (0) (0) (0)) kn8 15 68).2.2
theorem kx8 : execR (kk8.abc (0) (0) (0)) kn8 15 68 = (kc8, 4, kn9) := by kernel_rfl
theorem ko8 : kk8.ok := okB_ok (by decide +kernel)
def kn10 : Ram := kn9.set (-2147483644) (-2147483645)
def kk10 : Core := ⟨0, 0, 0, -2147483048, -2147483632, 1, true, false, false, false, 0, 0, 0, 0, 0, 0, 0, 0, 0, 0, false, 0, 0, 0, 0, 0, false, 0⟩
def kc10 : Core := ⟨0, 0, 0, -2147483048, -2147483632, 1, true, false, false, false, 0, 0, 0, 0, 0, 0, 0, 0, 0, 0, false, 0, 0, 0, 0, 0, false, 0⟩
def kn11 : Ram := (execR (kk10.abc (0) (0) (0)) kn10 15 68).2.2
theorem kx10 : execR (kk10.abc (0) (0) (0)) kn10 15 68 = (kc10, 0, kn11) := by kernel_rfl
theorem ko10 : kk10.ok := okB_ok (by decide +kernel)
def kk11 : Core := ⟨0, 0, 0, -2147483048, -2147483640, 1, true, false, false, false, 0, 0, 0, 0, 0, 0, 0, 0, 0, 0, false, 0, 0, 0, 0, 0, false, 0⟩
def kc11 : Core := ⟨0, 0, 0, 0, 0, 0, false, false, false, false, 0, 0, 0, 0, 0, 0, 0, 0, 0, 0, false, 0, 0, 0, 0, 0, false, 0⟩
def kn12 : Ram := (execR (kk11.abc (1) (0) (0)) kn11 15 73).2.2
theorem kx11 : execR (kk11.abc (1) (0) (0)) kn11 15 73 = (kc11, 4, kn12) := by kernel_rfl
theorem ko11 : kk11.ok := okB_ok (by decide +kernel)
theorem kn9_eq : kn9.l = kn8.l := by kernel_rfl
noncomputable abbrev ctKn : CT := [(f_l31_ready, eReady), (f_mem_Mem_SetWord, eSetWordT), (f_l31_exec, eExecL), (f_mem_Mem_Bytes, eBytesT), (f_alt_Mine, .pure spMine), (f_l31_works, .pure spWorks)]
theorem ctKn_ok : CTok Try.prog ctKn := ⟨con_ok cal_l31_ready _, con_ok cal_mem_Mem_SetWord _, con_ok cal_l31_exec _, con_ok cal_mem_Mem_Bytes _, ceMine, ceWorks, trivial⟩
set_option maxHeartbeats 4000000 in
theorem AltKnown_c : Con Try.prog f_l31_AltKnown [] [] (.ret (.t (.s (.bool true))) []) := by
  intro K hK
  refine enter fn_l31_AltKnown rfl nt_l31_AltKnown rfl rfl (fun φ w0 β0 F => ?_)
  refine c_run tt_ok ctKn_ok k_l31_AltKnown [] 60 (by kernel_rfl) ?_
  refine ⟨(kn0, kc0, 8, kn1), ⟨rfl, rfl, rfl, rfl, ⟨ko0, i32B_ok (by decide +kernel), i32B_ok (by decide +kernel), i32B_ok (by decide +kernel)⟩, kx0⟩, ?_⟩
  refine ⟨(kn1, kc1, 0, kn2), ⟨rfl, rfl, rfl, rfl, ⟨ko1, i32B_ok (by decide +kernel), i32B_ok (by decide +kernel), i32B_ok (by decide +kernel)⟩, kx1⟩, ?_⟩
  refine ⟨(kn2, kc2, 8, kn3), ⟨rfl, rfl, rfl, rfl, ⟨ko2, i32B_ok (by decide +kernel), i32B_ok (by decide +kernel), i32B_ok (by decide +kernel)⟩, kx2⟩, ?_⟩
  refine ⟨(kn3, kc3, 4, kn4), ⟨rfl, rfl, rfl, rfl, ⟨ko3, i32B_ok (by decide +kernel), i32B_ok (by decide +kernel), i32B_ok (by decide +kernel)⟩, kx3⟩, ?_⟩
  refine ⟨(kn4, kc4, 280, kn5), ⟨rfl, rfl, rfl, rfl, ⟨ko4, i32B_ok (by decide +kernel), i32B_ok (by decide +kernel), i32B_ok (by decide +kernel)⟩, kx4⟩, ?_⟩
  refine ⟨(kn5, kc5, 8, kn6), ⟨rfl, rfl, rfl, rfl, ⟨ko5, i32B_ok (by decide +kernel), i32B_ok (by decide +kernel), i32B_ok (by decide +kernel)⟩, kx5⟩, ?_⟩
  refine ⟨(kn6, kc6, 2, kn7), ⟨rfl, rfl, rfl, rfl, ⟨ko6, i32B_ok (by decide +kernel), i32B_ok (by decide +kernel), i32B_ok (by decide +kernel)⟩, kx6⟩, ?_⟩
  refine ⟨(kn7, kc7, 0, kn8), ⟨rfl, rfl, rfl, rfl, ⟨ko7, i32B_ok (by decide +kernel), i32B_ok (by decide +kernel), i32B_ok (by decide +kernel)⟩, kx7⟩, ?_⟩
  refine ⟨kn8, ⟨rfl, rfl, rfl, rfl⟩, ?_⟩
  refine ⟨(kn8, kc8, 4, kn9), ⟨rfl, rfl, rfl, rfl, ⟨ko8, i32B_ok (by decide +kernel), i32B_ok (by decide +kernel), i32B_ok (by decide +kernel)⟩, kx8⟩, ?_⟩
  have hs8 : seg (bytesI kn8.l) 0 kn8.l.length = bytesI kn8.l := by rw [seg_bytesI, List.drop_zero, List.take_length]
  have hs9 : seg (bytesI kn9.l) 0 kn9.l.length = bytesI kn9.l := by rw [seg_bytesI, List.drop_zero, List.take_length]
  repeat' (first | exact trivial | (refine ⟨kn8.l, ⟨hs8, rfl⟩, ?_⟩) | (refine ⟨kn9.l, ⟨hs9, rfl⟩, ?_⟩) | (refine ⟨kn9, ⟨rfl, rfl, rfl, rfl⟩, ?_⟩) | (refine And.intro ?_ ?_))
  all_goals
    refine ⟨kn9, ⟨rfl, rfl, rfl, rfl, i32B_ok (by decide +kernel)⟩, ?_⟩
    refine ⟨(kn10, kc10, 0, kn11), ⟨rfl, rfl, rfl, rfl, ⟨ko10, i32B_ok (by decide +kernel), i32B_ok (by decide +kernel), i32B_ok (by decide +kernel)⟩, kx10⟩, ?_⟩
    refine ⟨(kn11, kc11, 4, kn12), ⟨rfl, rfl, rfl, rfl, ⟨ko11, i32B_ok (by decide +kernel), i32B_ok (by decide +kernel), i32B_ok (by decide +kernel)⟩, kx11⟩, ?_⟩
    repeat (first | (refine ⟨trivial, ?_⟩) | (refine ⟨fun _ => trivial, ?_⟩))
    refine fin_k tt_ok (rs := rs_l31_AltKnown) rfl rfl hK [] ?_ rfl rfl rfl rfl rfl
    refine t1b ?_
    decide +kernel
end Go.Proofs

namespace Go.Proofs
open Go Go.Sx
set_option maxRecDepth 10000
theorem RWrap_c (t : Int) (h1 : -9223372036854775808 ≤ t) (h2 : t ≤ 9223372036854775807) : Con Try.prog f_r01_Wrap [.s (.int .i64 t)] [] (.ret (.t (.s (.int .i32 (IntKind.i32.wrap t)))) []) := by
  intro K hK
  refine enter fn_r01_Wrap rfl nt_r01_Wrap rfl rfl (fun φ w0 β0 F => ?_)
  refine c_run tt_ok (ct := []) trivial k_r01_Wrap [] 60 (by kernel_rfl) ?_
  have ht : t.tmod 4294967296 = t % 4294967296 ∨ (t < 0 ∧ t.tmod 4294967296 = -((-t) % 4294967296)) := by
    rcases Int.lt_or_le t 0 with h | h
    · right
      refine ⟨h, ?_⟩
      have : t = -(-t) := by omega
      rw [this, Int.neg_tmod, Int.tmod_eq_emod_of_nonneg (by omega), Int.neg_neg]
    · left; exact Int.tmod_eq_emod_of_nonneg h
  have hr : IntKind.i64.wrap (t.tmod 4294967296) = t.tmod 4294967296 := by rw [wrap64 (by omega) (by omega)]
  refine ⟨fun h => ⟨fun h3 => ?_, fun h3 => ?_⟩, fun h => ⟨fun h3 => ?_, fun h3 => ?_⟩⟩
  all_goals
    simp only [decide_eq_true_eq, decide_eq_false_iff_not, hr] at h h3
    refine fin_k tt_ok (rs := rs_r01_Wrap) rfl rfl hK [] (t1 ?_) rfl rfl rfl rfl rfl
    simp only [hr, IntKind.wrap_i32, IntKind.wrap_i64] at *
    omega
def spRWrap : List TV → Option (Prop × FV)
  | [.s (.int .i64 t)] => some (-9223372036854775808 ≤ t ∧ t ≤ 9223372036854775807, .t (.s (.int .i32 (IntKind.i32.wrap t))))
  | _ => none
theorem ceRWrap : CEok Try.prog f_r01_Wrap spRWrap := ⟨cal_r01_Wrap, fun args p v h hp => by
  unfold spRWrap at h; split at h
  · cases h; exact (RWrap_c _ hp.1 hp.2).pure
  · cases h⟩
noncomputable abbrev ctRW1 : CT := [(f_r01_Wrap, .pure spRWrap)]
theorem ctRW1_ok : CTok Try.prog ctRW1 := ⟨ceRWrap, trivial⟩
theorem i64_lo (n : Int) : -9223372036854775808 ≤ IntKind.i64.wrap n := by rw [IntKind.wrap_i64]; omega
theorem i64_hi (n : Int) : IntKind.i64.wrap n ≤ 9223372036854775807 := by rw [IntKind.wrap_i64]; omega
theorem Rat_c (w k : Int) (hw : I32 w) (hk : I32 k) : Con Try.prog f_r31_at [.s (.int .i32 w), .s (.int .i32 k)] [] (.ret (.t (.s (.int .i32 (IntKind.i32.wrap (w + 4 * k))))) []) := by
  intro K hK
  refine enter fn_r31_at rfl nt_r31_at rfl rfl (fun φ w0 β0 F => ?_)
  refine c_run tt_ok ctRW1_ok k_r31_at [] 60 (by kernel_rfl) ?_
  refine ⟨⟨i64_lo _, i64_hi _⟩, ?_⟩
  refine fin_k tt_ok (rs := rs_r31_at) rfl rfl hK [] (t1 ?_) rfl rfl rfl rfl rfl
  unfold I32 at hw hk
  simp only [IntKind.wrap_i32, IntKind.wrap_i64]
  omega
def spRat : List TV → Option (Prop × FV)
  | [.s (.int .i32 w), .s (.int .i32 k)] => some (I32 w ∧ I32 k, .t (.s (.int .i32 (IntKind.i32.wrap (w + 4 * k)))))
  | _ => none
theorem ceRat : CEok Try.prog f_r31_at spRat := ⟨cal_r31_at, fun args p v h hp => by
  unfold spRat at h; split at h
  · cases h; exact (Rat_c _ _ hp.1 hp.2).pure
  · cases h⟩
theorem Rown_c (k : Core) : Con Try.prog f_r31_own [.agg k.sv] [] (.ret (.t (.s (.int .i32 (ownAt k.wptr k.pri)))) []) := by
  intro K hK
  refine enter fn_r31_own rfl nt_r31_own rfl rfl (fun φ w0 β0 F => ?_)
  refine c_run tt_ok ctRW1_ok k_r31_own [] 60 (by kernel_rfl) ?_
  refine ⟨⟨i64_lo _, i64_hi _⟩, ?_⟩
  refine fin_k tt_ok (rs := rs_r31_own) rfl rfl hK [] (t1 ?_) rfl rfl rfl rfl rfl
  unfold ownAt
  simp only [IntKind.wrap_i32, IntKind.wrap_i64]
  omega
def spRown : List TV → Option (Prop × FV)
  | [.agg cs] => withCore cs fun k _ => some (True, .t (.s (.int .i32 (ownAt k.wptr k.pri))))
  | _ => none
theorem ceRown : CEok Try.prog f_r31_own spRown := ⟨cal_r31_own, fun args p v h hp => by
  unfold spRown at h; split at h
  · obtain ⟨k, hk, h⟩ := withCore_some h
    cases h; subst hk; exact (Rown_c _).pure
  · cases h⟩
theorem Rlinked_c (c : Int) (hc : I32 c) : Con Try.prog f_r31_linked [.s (.int .i32 c)] [] (.ret (.t (.s (.bool (decide (c < -2147483616))))) []) := by
  intro K hK
  refine enter fn_r31_linked rfl nt_r31_linked rfl rfl (fun φ w0 β0 F => ?_)
  refine c_run tt_ok ctI_ok k_r31_linked [] 60 (by kernel_rfl) ?_
  refine ⟨hc, ?_⟩
  refine fin_k tt_ok (rs := rs_r31_linked) rfl rfl hK [] (t1b ?_) rfl rfl rfl rfl rfl
  unfold ofAt; congr 1; apply propext; constructor <;> intro h <;> omega
def spRlinked : List TV → Option (Prop × FV)
  | [.s (.int .i32 c)] => some (I32 c, .t (.s (.bool (decide (c < -2147483616)))))
  | _ => none
theorem ceRlinked : CEok Try.prog f_r31_linked spRlinked := ⟨cal_r31_linked, fun args p v h hp => by
  unfold spRlinked at h; split at h
  · cases h; exact (Rlinked_c _ hp).pure
  · cases h⟩
/-- What a function of the reference returns: a core, a memory, an error. -/
abbrev RES (m m' : Ram) (k' : Core) (e' : Int) : Out := .all Nat (fun c => m'.l.length ≤ c) fun c => .ret (.tup [.agg k'.sv, .s (.sl 1 0 m'.l.length c), .s (.int .i64 e')]) [.view (bytesI m.l), .view (bytesI m'.l)]
def stR (k : Core) (m : Ram) (a v : Int) : Core × Int × Ram := bif wBad m a then (.zero, 4, m) else (k, 0, m.set a v)
noncomputable abbrev ctRSt : CT := [(f_r03_SetWord, eRSetWordT)]
theorem ctRSt_ok : CTok Try.prog ctRSt := ⟨con_ok cal_r03_SetWord _, trivial⟩
theorem seg_all (m : Ram) : seg (bytesI m.l) 0 m.l.length = bytesI m.l := by rw [seg_bytesI, List.drop_zero, List.take_length]
theorem Rstore_c (k : Core) (m : Ram) (cap : Nat) (a v : Int) (k' : Core) (e' : Int) (m' : Ram) (ha : I32 a) (hc : m.l.length ≤ cap) (hx : stR k m a v = (k', e', m')) :
    Con Try.prog f_r31_store [.agg k.sv, .s (.sl 0 0 m.l.length cap), .s (.int .i32 a), .s (.int .i32 v)] [.view (bytesI m.l)] (RES m m' k' e') := by
  intro K hK
  refine enter fn_r31_store rfl nt_r31_store rfl rfl (fun φ w0 β0 F => ?_)
  refine c_run tt_ok ctRSt_ok k_r31_store [] 60 (by kernel_rfl) ?_
  refine ⟨m, ⟨rfl, rfl, ha, hc⟩, fun c h1 => ⟨fun h => ?_, fun h => ?_⟩⟩
  · have hb : wBad m a = true := by
      cases hb : wBad m a with
      | true => rfl
      | false => simp [Ram.err, hb] at h
    simp only [stR, hb, cond_true] at hx
    cases hx
    refine WpE.into (aliasSlot 9 0 0 m.l.length cap rfl rfl) ?_
    refine fin_k tt_ok (rs := rs_r31_store) rfl rfl (hK cap hc) [0, 4] ?_ ?_ rfl rfl rfl rfl
    · rfl
    · rw [seg_all]; rfl
  · have hb : wBad m a = false := by
      cases hb : wBad m a with
      | false => rfl
      | true => simp [Ram.err, hb] at h
    simp only [stR, hb, cond_false] at hx
    cases hx
    refine fin_k tt_ok (rs := rs_r31_store) rfl rfl (hK c (by rw [set_len]; exact h1)) [0, 3] ?_ ?_ rfl rfl rfl rfl
    · rfl
    · rfl
end Go.Proofs

namespace Go.Proofs
open Go Go.Sx
set_option maxRecDepth 10000
noncomputable abbrev eRStore : Ent := .st (conS (P := Try.prog) (f := f_r31_store) fun cargs σ0 => match cargs, σ0 with
  | [.agg cs, .s (.sl 0 0 n cap), .s (.int .i32 a), .s (.int .i32 v)], [.view xs] => withCore cs fun k hk => some ⟨.ex (Ram × Core × Int × Ram) fun p => .ask (n = p.1.l.length ∧ xs = bytesI p.1.l ∧ I32 a ∧ p.1.l.length ≤ cap ∧ stR k p.1 a v = p.2)
      (RES p.1 p.2.2.2 p.2.1 p.2.2.1), fun K h => by
      obtain ⟨⟨m, k', e', m'⟩, ⟨e1, e2, h1, h2, h3⟩, h⟩ := h
      dsimp only at e1 e2 h1 h2 h3 h
      subst e1; subst e2; subst hk
      exact Rstore_c k m cap a v k' e' m' h1 h2 h3 K h⟩
  | _, _ => none)
def chR (k : Core) (m : Ram) : Core × Int × Ram := bif wBad m k.wptr then (.zero, 4, m) else bif m.word k.wptr != -1 then ({ k with a := 0 }, 0, m) else stR { k with a := 1 } m k.wptr k.a
noncomputable abbrev ctRCh : CT := [(f_r03_Word, eRWordT), (f_r31_store, eRStore), (f_r31_at, .pure spRat), (f_r31_own, .pure spRown)]
theorem ctRCh_ok : CTok Try.prog ctRCh := ⟨con_ok cal_r03_Word _, con_ok cal_r31_store _, ceRat, ceRown, trivial⟩
theorem err_bad {m : Ram} {a : Int} (h : (m.err a != 0) = true) : wBad m a = true := by
  cases hb : wBad m a with
  | true => rfl
  | false => simp [Ram.err, hb] at h
theorem err_ok {m : Ram} {a : Int} (h : (m.err a != 0) = false) : wBad m a = false := by
  cases hb : wBad m a with
  | false => rfl
  | true => simp [Ram.err, hb] at h
theorem Rchoose_c (k : Core) (m : Ram) (cap : Nat) (k' : Core) (e' : Int) (m' : Ram) (hok : k.ok) (hc : m.l.length ≤ cap) (hx : chR k m = (k', e', m')) :
    Con Try.prog f_r31_choose [.agg k.sv, .s (.sl 0 0 m.l.length cap)] [.view (bytesI m.l)] (RES m m' k' e') := by
  intro K hK
  refine enter fn_r31_choose rfl nt_r31_choose rfl rfl (fun φ w0 β0 F => ?_)
  refine c_run tt_ok ctRCh_ok k_r31_choose [] 60 (by kernel_rfl) ?_
  refine ⟨m, ⟨rfl, rfl, hok.wptr⟩, fun h => ?_, fun h => ⟨fun h2 => ?_, fun h2 => ?_⟩⟩
  · have hb := err_bad h
    simp only [chR, hb, cond_true] at hx
    cases hx
    refine WpE.into (aliasSlot 5 0 0 m.l.length cap rfl rfl) ?_
    refine fin_k tt_ok (rs := rs_r31_choose) rfl rfl (hK cap hc) [0, 3] rfl ?_ rfl rfl rfl rfl
    rw [seg_all]; rfl
  · have hb := err_ok h
    simp only [chR, hb, h2, cond_true, cond_false] at hx
    cases hx
    refine WpE.into (aliasSlot 5 0 0 m.l.length cap rfl rfl) ?_
    refine fin_k tt_ok (rs := rs_r31_choose) rfl rfl (hK cap hc) [0, 3] rfl ?_ rfl rfl rfl rfl
    rw [seg_all]; rfl
  · have hb := err_ok h
    simp only [chR, hb, h2, cond_false] at hx
    obtain ⟨p0, p1, p2, p3, p4, p5, p6, p7, p8, p9, p10, p11, p12, p13, p14, p15, p16, p17, p18, p19, p20, p21, p22, p23, p24, p25, p26, p27⟩ := k'
    refine ⟨(m, ⟨p0, p1, p2, p3, p4, p5, p6, p7, p8, p9, p10, p11, p12, p13, p14, p15, p16, p17, p18, p19, p20, p21, p22, p23, p24, p25, p26, p27⟩, e', m'), ⟨rfl, rfl, hok.wptr, hc, hx⟩, fun c h1 => ?_⟩
    refine fin_k tt_ok (rs := rs_r31_choose) rfl rfl (hK c h1) [0, 4] rfl rfl rfl rfl rfl rfl
noncomputable abbrev eRChoose : Ent := .st (conS (P := Try.prog) (f := f_r31_choose) fun cargs σ0 => match cargs, σ0 with
  | [.agg cs, .s (.sl 0 0 n cap)], [.view xs] => withCore cs fun k hk => some ⟨.ex (Ram × Core × Int × Ram) fun p => .ask (n = p.1.l.length ∧ xs = bytesI p.1.l ∧ k.ok ∧ p.1.l.length ≤ cap ∧ chR k p.1 = p.2)
      (RES p.1 p.2.2.2 p.2.1 p.2.2.1), fun K h => by
      obtain ⟨⟨m, k', e', m'⟩, ⟨e1, e2, h1, h2, h3⟩, h⟩ := h
      dsimp only at e1 e2 h1 h2 h3 h
      subst e1; subst e2; subst hk
      exact Rchoose_c k m cap k' e' m' h1 h2 h3 K h⟩
  | _, _ => none)
def disR (k : Core) (m : Ram) (ch : Int) : Core × Int × Ram := bif wBad m ch then (.zero, 4, m) else bif (bif m.word ch != -2147483648 then m.word ch != ownAt k.wptr k.pri else false) then chR k m
  else bif m.word ch == ownAt k.wptr k.pri then stR { k with a := 0 } m ch (-2147483648) else ({ k with a := 0 }, 0, m)
noncomputable abbrev ctRDi : CT := (f_r31_choose, eRChoose) :: ctRCh
theorem ctRDi_ok : CTok Try.prog ctRDi := ⟨con_ok cal_r31_choose _, ctRCh_ok⟩
theorem Rdisable_c (k : Core) (m : Ram) (cap : Nat) (ch : Int) (k' : Core) (e' : Int) (m' : Ram) (hok : k.ok) (hch : I32 ch) (hc : m.l.length ≤ cap) (hx : disR k m ch = (k', e', m')) :
    Con Try.prog f_r31_disable [.agg k.sv, .s (.sl 0 0 m.l.length cap), .s (.int .i32 ch)] [.view (bytesI m.l)] (RES m m' k' e') := by
  intro K hK
  refine enter fn_r31_disable rfl nt_r31_disable rfl rfl (fun φ w0 β0 F => ?_)
  refine c_run tt_ok ctRDi_ok k_r31_disable [] 60 (by kernel_rfl) ?_
  refine ⟨m, ⟨rfl, rfl, hch⟩, fun h => ?_, fun h => ⟨fun _ => trivial, fun h2 => ?_, fun h2 => ⟨trivial, fun h3 => ?_, fun h3 => ?_⟩⟩⟩
  · have hb := err_bad h
    simp only [disR, hb, cond_true] at hx
    cases hx
    refine WpE.into (aliasSlot 7 0 0 m.l.length cap rfl rfl) ?_
    refine fin_k tt_ok (rs := rs_r31_disable) rfl rfl (hK cap hc) [0, 3] rfl ?_ rfl rfl rfl rfl
    rw [seg_all]; rfl
  · have hb := err_ok h
    simp only [disR, hb, show (bif m.word ch != -2147483648 then m.word ch != ownAt k.wptr k.pri else false) = true from h2, cond_true, cond_false] at hx
    obtain ⟨p0, p1, p2, p3, p4, p5, p6, p7, p8, p9, p10, p11, p12, p13, p14, p15, p16, p17, p18, p19, p20, p21, p22, p23, p24, p25, p26, p27⟩ := k'
    refine ⟨(m, ⟨p0, p1, p2, p3, p4, p5, p6, p7, p8, p9, p10, p11, p12, p13, p14, p15, p16, p17, p18, p19, p20, p21, p22, p23, p24, p25, p26, p27⟩, e', m'), ⟨rfl, rfl, hok, hc, hx⟩, fun c h1 => ?_⟩
    refine fin_k tt_ok (rs := rs_r31_disable) rfl rfl (hK c h1) [0, 3] rfl rfl rfl rfl rfl rfl
  · have hb := err_ok h
    simp only [disR, hb, show (bif m.word ch != -2147483648 then m.word ch != ownAt k.wptr k.pri else false) = false from h2, show (m.word ch == ownAt k.wptr k.pri) = true from h3, cond_true, cond_false] at hx
    obtain ⟨p0, p1, p2, p3, p4, p5, p6, p7, p8, p9, p10, p11, p12, p13, p14, p15, p16, p17, p18, p19, p20, p21, p22, p23, p24, p25, p26, p27⟩ := k'
    refine ⟨(m, ⟨p0, p1, p2, p3, p4, p5, p6, p7, p8, p9, p10, p11, p12, p13, p14, p15, p16, p17, p18, p19, p20, p21, p22, p23, p24, p25, p26, p27⟩, e', m'), ⟨rfl, rfl, hch, hc, hx⟩, fun c h1 => ?_⟩
    refine fin_k tt_ok (rs := rs_r31_disable) rfl rfl (hK c h1) [0, 3] rfl rfl rfl rfl rfl rfl
  · have hb := err_ok h
    simp only [disR, hb, show (bif m.word ch != -2147483648 then m.word ch != ownAt k.wptr k.pri else false) = false from h2, show (m.word ch == ownAt k.wptr k.pri) = false from h3, cond_false] at hx
    cases hx
    refine WpE.into (aliasSlot 7 0 0 m.l.length cap rfl rfl) ?_
    refine fin_k tt_ok (rs := rs_r31_disable) rfl rfl (hK cap hc) [0, 3] rfl ?_ rfl rfl rfl rfl
    rw [seg_all]; rfl
end Go.Proofs

namespace Go.Proofs
open Go Go.Sx
set_option maxRecDepth 10000
def enR (k : Core) (m : Ram) : Core × Int × Ram := bif wBad m k.b then (.zero, 4, m) else bif m.word k.b == -2147483648 then stR { k with b := k.c } m k.b (ownAt k.wptr k.pri)
  else bif m.word k.b == ownAt k.wptr k.pri then ({ k with b := k.c }, 0, m) else stR { k with b := k.c } m (stAt k.wptr) (-2147483645)
theorem Renable_c (k : Core) (m : Ram) (cap : Nat) (k' : Core) (e' : Int) (m' : Ram) (hok : k.ok) (hc : m.l.length ≤ cap) (hx : enR k m = (k', e', m')) :
    Con Try.prog f_r31_enable [.agg k.sv, .s (.sl 0 0 m.l.length cap)] [.view (bytesI m.l)] (RES m m' k' e') := by
  intro K hK
  have h3i : I32 (-3) := i32B_ok (by decide)
  refine enter fn_r31_enable rfl nt_r31_enable rfl rfl (fun φ w0 β0 F => ?_)
  refine c_run tt_ok ctRCh_ok k_r31_enable [] 60 (by kernel_rfl) ?_
  refine ⟨m, ⟨rfl, rfl, hok.b⟩, fun h => ?_, fun h => ⟨fun h2 => ?_, fun h2 => ⟨trivial, fun h3 => ?_, fun h3 => ?_⟩⟩⟩
  · have hb := err_bad h
    simp only [enR, hb, cond_true] at hx
    cases hx
    refine WpE.into (aliasSlot 5 0 0 m.l.length cap rfl rfl) ?_
    refine fin_k tt_ok (rs := rs_r31_enable) rfl rfl (hK cap hc) [0, 3] rfl ?_ rfl rfl rfl rfl
    rw [seg_all]; rfl
  · have hb := err_ok h
    simp only [enR, hb, h2, cond_true, cond_false] at hx
    refine c_ways tt_ok ctRCh_ok k_r31_enable rfl rfl ?_
    repeat' (first | exact trivial | (refine ⟨(m, k', e', m'), ⟨rfl, rfl, hok.b, hc, hx⟩, fun c h1 => ?_⟩) | (refine And.intro ?_ ?_))
    all_goals
      refine e_run tt_ok ctRCh_ok k_r31_enable [] 60 (by kernel_rfl) ?_
      refine fin_k tt_ok (rs := rs_r31_enable) rfl rfl (hK c (by assumption)) [0, 3] rfl rfl rfl rfl rfl rfl
  · have hb := err_ok h
    simp only [enR, hb, h2, show (m.word k.b == ownAt k.wptr k.pri) = true from h3, cond_true, cond_false] at hx
    cases hx
    refine WpE.into (aliasSlot 5 0 0 m.l.length cap rfl rfl) ?_
    refine fin_k tt_ok (rs := rs_r31_enable) rfl rfl (hK cap hc) [0, 3] rfl ?_ rfl rfl rfl rfl
    rw [seg_all]; rfl
  · have hb := err_ok h
    simp only [enR, hb, h2, show (m.word k.b == ownAt k.wptr k.pri) = false from h3, cond_false] at hx
    refine c_ways tt_ok ctRCh_ok k_r31_enable rfl rfl ?_
    repeat' (first | exact trivial | exact ⟨hok.wptr, h3i⟩ | (refine ⟨(m, k', e', m'), ⟨rfl, rfl, I32_wrap _, hc, hx⟩, fun c h1 => ?_⟩) | (refine And.intro ?_ ?_))
    all_goals
      refine e_run tt_ok ctRCh_ok k_r31_enable [] 60 (by kernel_rfl) ?_
      refine fin_k tt_ok (rs := rs_r31_enable) rfl rfl (hK c (by assumption)) [0, 3] rfl rfl rfl rfl rfl rfl
end Go.Proofs

namespace Go.Proofs
open Go Go.Sx
set_option maxRecDepth 10000
noncomputable abbrev ctRVa : CT := [(f_r03_Index, .pure spIndex), (f_r03_Lies, .pure spLies)]
theorem ctRVa_ok : CTok Try.prog ctRVa := ⟨ceIndex, ceLies, trivial⟩
theorem RValid_c (m : Ram) (cap : Nat) (w : Int) (hw : I32 w) : Con Try.prog f_r29_Valid [.s (.sl 0 0 m.l.length cap), .s (.int .i32 w)] [.view (bytesI m.l)] (.ret (.t (.s (.bool (validB m w)))) [.view (bytesI m.l)]) := by
  intro K hK
  have h0 := m.lo
  have h1 := m.hi
  refine enter fn_r29_Valid rfl nt_r29_Valid rfl rfl (fun φ w0 β0 F => ?_)
  refine c_run tt_ok ctRVa_ok k_r29_Valid [] 60 (by kernel_rfl) ?_
  refine ⟨fun _ => hw, fun _ => ⟨by omega, by omega, hw⟩, ?_⟩
  refine fin_k tt_ok (rs := rs_r29_Valid) rfl rfl hK [0] (t1b ?_) rfl rfl rfl rfl rfl
  have e : (w.tmod 4 == 0) = (w % 4 == 0) := by
    unfold I32 at hw
    have : w.tmod 4 = w % 4 ∨ (w < 0 ∧ w.tmod 4 = -((-w) % 4)) := by
      rcases Int.lt_or_le w 0 with h | h
      · exact .inr ⟨h, (tmod4 w).2 h⟩
      · exact .inl ((tmod4 w).1 h)
    rw [Bool.eq_iff_iff]
    simp only [beq_iff_eq]
    omega
  rw [e]
  unfold validB liesB
  cases hA : (bif w % 4 == 0 then decide (ofAt w ≥ 20) else false)
  · rfl
  · have : ofAt w ≥ 20 := by
      cases h4 : (w % 4 == 0) <;> simp [h4] at hA
      exact hA
    simp only [cond_true]
    rw [Bool.eq_iff_iff]
    simp
    omega
noncomputable abbrev eRValid : Ent := .st (conS (P := Try.prog) (f := f_r29_Valid) fun cargs σ0 => match cargs, σ0 with
  | [.s (.sl 0 0 n cap), .s (.int .i32 w)], [.view xs] => some ⟨.ex Ram fun m => .ask (n = m.l.length ∧ xs = bytesI m.l ∧ I32 w) (.ret (.t (.s (.bool (validB m w)))) [.view (bytesI m.l)]), fun K h => by
      obtain ⟨m, ⟨e1, e2, h1⟩, h⟩ := h
      subst e1; subst e2
      exact RValid_c m cap w h1 K h⟩
  | _, _ => none)
theorem RNobody_c (k : Core) : Con Try.prog f_r29_Nobody [.agg k.sv] [] (.ret (.t (.agg k.nobody.sv)) []) := by
  intro K hK
  refine enter fn_r29_Nobody rfl nt_r29_Nobody rfl rfl (fun φ w0 β0 F => ?_)
  refine c_run tt_ok (ct := []) trivial k_r29_Nobody [] 60 (by kernel_rfl) ?_
  exact fin_k tt_ok (rs := rs_r29_Nobody) rfl rfl hK [] rfl rfl rfl rfl rfl rfl
def spRNobody : List TV → Option (Prop × FV)
  | [.agg cs] => withCore cs fun k _ => some (True, .t (.agg k.nobody.sv))
  | _ => none
theorem ceRNobody : CEok Try.prog f_r29_Nobody spRNobody := ⟨cal_r29_Nobody, fun args p v h hp => by
  unfold spRNobody at h; split at h
  · obtain ⟨k, hk, h⟩ := withCore_some h
    cases h; subst hk; exact (RNobody_c _).pure
  · cases h⟩
theorem RSet_c (m : Ram) (cap : Nat) (w k v : Int) (hc : m.l.length ≤ cap) : Con Try.prog f_r29_Set [.s (.sl 0 0 m.l.length cap), .s (.int .i32 w), .s (.int .i32 k), .s (.int .i32 v)] [.view (bytesI m.l)]
    (.all Nat (fun c => m.l.length ≤ c) fun c => .ret (.t (.s (.sl 1 0 (m.set (IntKind.i32.wrap (w + IntKind.i32.wrap (4 * k))) v).l.length c))) [.view (bytesI m.l), .view (bytesI (m.set (IntKind.i32.wrap (w + IntKind.i32.wrap (4 * k))) v).l)]) := by
  intro K hK
  refine enter fn_r29_Set rfl nt_r29_Set rfl rfl (fun φ w0 β0 F => ?_)
  refine c_run tt_ok ctRSt_ok k_r29_Set [] 60 (by kernel_rfl) ?_
  refine ⟨m, ⟨rfl, rfl, I32_wrap _, hc⟩, fun c h1 => ?_⟩
  exact fin_k tt_ok (rs := rs_r29_Set) rfl rfl (hK c h1) [0, 1] rfl rfl rfl rfl rfl rfl
noncomputable abbrev eRSet : Ent := .st (conS (P := Try.prog) (f := f_r29_Set) fun cargs σ0 => match cargs, σ0 with
  | [.s (.sl 0 0 n cap), .s (.int .i32 w), .s (.int .i32 k), .s (.int .i32 v)], [.view xs] => some ⟨.ex Ram fun m => .ask (n = m.l.length ∧ xs = bytesI m.l ∧ m.l.length ≤ cap)
      (.all Nat (fun c => m.l.length ≤ c) fun c => .ret (.t (.s (.sl 1 0 (m.set (IntKind.i32.wrap (w + IntKind.i32.wrap (4 * k))) v).l.length c))) [.view (bytesI m.l), .view (bytesI (m.set (IntKind.i32.wrap (w + IntKind.i32.wrap (4 * k))) v).l)]), fun K h => by
      obtain ⟨m, ⟨e1, e2, h1⟩, h⟩ := h
      subst e1; subst e2
      exact RSet_c m cap w k v h1 K h⟩
  | _, _ => none)
def waR (k : Core) (m : Ram) : Core × Int × Ram := bif !k.busy then (.zero, 8, m) else bif !validB m k.wptr then (.zero, 4, m) else (k.nobody, 0, m.set (IntKind.i32.wrap (k.wptr + -4)) k.iptr)
noncomputable abbrev ctRWt : CT := [(f_r29_Valid, eRValid), (f_r29_Nobody, .pure spRNobody), (f_r29_Set, eRSet)]
theorem ctRWt_ok : CTok Try.prog ctRWt := ⟨con_ok cal_r29_Valid _, ceRNobody, con_ok cal_r29_Set _, trivial⟩
set_option maxHeartbeats 4000000 in
theorem RWait_c (k : Core) (m : Ram) (cap : Nat) (k' : Core) (e' : Int) (m' : Ram) (hok : k.ok) (hc : m.l.length ≤ cap) (hx : waR k m = (k', e', m')) :
    Con Try.prog f_r29_Wait [.agg k.sv, .s (.sl 0 0 m.l.length cap)] [.view (bytesI m.l)] (RES m m' k' e') := by
  intro K hK
  refine enter fn_r29_Wait rfl nt_r29_Wait rfl rfl (fun φ w0 β0 F => ?_)
  refine c_run tt_ok ctRWt_ok k_r29_Wait [] 60 (by kernel_rfl) ?_
  refine ⟨fun h => ?_, fun h => ⟨m, ⟨rfl, rfl, hok.wptr⟩, fun h2 => ?_, fun h2 => ?_⟩⟩
  · simp only [waR, h, cond_true] at hx
    cases hx
    refine WpE.into (aliasSlot 5 0 0 m.l.length cap rfl rfl) ?_
    refine fin_k tt_ok (rs := rs_r29_Wait) rfl rfl (hK cap hc) [0, 3] rfl ?_ rfl rfl rfl rfl
    rw [seg_all]; rfl
  · simp only [waR, h, h2, cond_true, cond_false] at hx
    cases hx
    refine WpE.into (aliasSlot 5 0 0 m.l.length cap rfl rfl) ?_
    refine fin_k tt_ok (rs := rs_r29_Wait) rfl rfl (hK cap hc) [0, 3] rfl ?_ rfl rfl rfl rfl
    rw [seg_all]; rfl
  · simp only [waR, h, h2, cond_false] at hx
    cases hx
    refine c_ways tt_ok ctRWt_ok k_r29_Wait rfl rfl ?_
    repeat' (first | exact trivial | (refine ⟨m, ⟨rfl, rfl, hc⟩, fun c h1 => ?_⟩) | (refine And.intro ?_ ?_))
    all_goals
      refine e_run tt_ok ctRWt_ok k_r29_Wait [] 60 (by kernel_rfl) ?_
      refine fin_k tt_ok (rs := rs_r29_Wait) rfl rfl (hK c (by rw [set_len]; assumption)) [0, 3] rfl rfl rfl rfl rfl rfl
end Go.Proofs

namespace Go.Proofs
open Go Go.Sx
set_option maxRecDepth 10000
noncomputable abbrev eRWait29 : Ent := .st (conS (P := Try.prog) (f := f_r29_Wait) fun cargs σ0 => match cargs, σ0 with
  | [.agg cs, .s (.sl 0 0 n cap)], [.view xs] => withCore cs fun k hk => some ⟨.ex (Ram × Core × Int × Ram) fun p => .ask (n = p.1.l.length ∧ xs = bytesI p.1.l ∧ k.ok ∧ p.1.l.length ≤ cap ∧ waR k p.1 = p.2)
      (RES p.1 p.2.2.2 p.2.1 p.2.2.1), fun K h => by
      obtain ⟨⟨m, k', e', m'⟩, ⟨e1, e2, h1, h2, h3⟩, h⟩ := h
      dsimp only at e1 e2 h1 h2 h3 h
      subst e1; subst e2; subst hk
      exact RWait_c k m cap k' e' m' h1 h2 h3 K h⟩
  | _, _ => none)
noncomputable abbrev ctRWw : CT := [(f_r03_Word, eRWordT), (f_r03_SetWord, eRSetWordT), (f_r31_at, .pure spRat), (f_r29_Wait, eRWait29)]
theorem ctRWw_ok : CTok Try.prog ctRWw := ⟨con_ok cal_r03_Word _, con_ok cal_r03_SetWord _, ceRat, con_ok cal_r29_Wait _, trivial⟩
/-- The memory that a process leaves that waits. -/
def wtM (k : Core) (m : Ram) : Ram := (m.set k.wptr (-1)).set (stAt k.wptr) (-2147483646)
def wtR (k : Core) (m : Ram) : Core × Int × Ram := bif (bif m.err (stAt k.wptr) != 0 then true else m.err k.wptr != 0) then (.zero, 4, m) else bif m.word (stAt k.wptr) == -2147483645 then (k, 0, m.set k.wptr (-1))
  else bif (waR k (wtM k m)).2.1 != 0 then (.zero, 4, m) else ((waR k (wtM k m)).1, 0, (waR k (wtM k m)).2.2)
theorem Rwait_c (k : Core) (m : Ram) (cap : Nat) (k' : Core) (e' : Int) (m' : Ram) (hok : k.ok) (hc : m.l.length ≤ cap) (hx : wtR k m = (k', e', m')) :
    Con Try.prog f_r31_wait [.agg k.sv, .s (.sl 0 0 m.l.length cap)] [.view (bytesI m.l)] (RES m m' k' e') := by
  intro K hK
  have h3i : I32 (-3) := i32B_ok (by decide)
  refine enter fn_r31_wait rfl nt_r31_wait rfl rfl (fun φ w0 β0 F => ?_)
  refine c_run tt_ok ctRWw_ok k_r31_wait [] 60 (by kernel_rfl) ?_
  refine ⟨⟨hok.wptr, h3i⟩, m, ⟨rfl, rfl, I32_wrap _⟩, m, ⟨rfl, rfl, hok.wptr, hc⟩, fun c h1 => ⟨fun h => ?_, fun h => ⟨fun h2 => ?_, fun h2 => ?_⟩⟩⟩
  · simp only [wtR, show (bif m.err (stAt k.wptr) != 0 then true else m.err k.wptr != 0) = true from h, cond_true] at hx
    cases hx
    refine WpE.into (aliasSlot 5 0 0 m.l.length cap rfl rfl) ?_
    refine fin_k tt_ok (rs := rs_r31_wait) rfl rfl (hK cap hc) [0, 4] rfl ?_ rfl rfl rfl rfl
    rw [seg_all]; rfl
  · simp only [wtR, show (bif m.err (stAt k.wptr) != 0 then true else m.err k.wptr != 0) = false from h, show (m.word (stAt k.wptr) == -2147483645) = true from h2, cond_true, cond_false] at hx
    cases hx
    refine fin_k tt_ok (rs := rs_r31_wait) rfl rfl (hK c (by rw [set_len]; exact h1)) [0, 3] rfl rfl rfl rfl rfl rfl
  · simp only [wtR, show (bif m.err (stAt k.wptr) != 0 then true else m.err k.wptr != 0) = false from h, show (m.word (stAt k.wptr) == -2147483645) = false from h2, cond_false] at hx
    refine ⟨⟨hok.wptr, h3i⟩, m.set k.wptr (-1), ⟨rfl, rfl, I32_wrap _, by rw [set_len]; exact h1⟩, fun c2 h3 => ?_⟩
    rcases hw : waR k (wtM k m) with ⟨k2, e2, m2⟩
    simp only [hw] at hx
    refine ⟨(wtM k m, k2, e2, m2), ⟨rfl, rfl, hok, by simpa [wtM, set_len] using h3, hw⟩, fun c3 h4 => ⟨fun h5 => ?_, fun h5 => ?_⟩⟩
    · simp only [show (e2 != 0) = true from h5, cond_true] at hx
      cases hx
      refine WpE.into (aliasSlot 5 0 0 m.l.length cap rfl rfl) ?_
      refine fin_k tt_ok (rs := rs_r31_wait) rfl rfl (hK cap hc) [0, 7] rfl ?_ rfl rfl rfl rfl
      rw [seg_all]; rfl
    · simp only [show (e2 != 0) = false from h5, cond_false] at hx
      cases hx
      exact fin_k tt_ok (rs := rs_r31_wait) rfl rfl (hK c3 h4) [0, 5] rfl rfl rfl rfl rfl rfl
/-! What alt.Exec computes is what the reference computes: no program in sight. -/
theorem getD_ext {a b : List Int} (hl : a.length = b.length) (h : ∀ j, a.getD j 0 = b.getD j 0) : a = b := by
  apply List.ext_getElem hl
  intro j h1 h2
  have := h j
  simpa [h1, h2] using this
theorem set_comm (m : Ram) (a b u v : Int) (ia : I32 a) (ib : I32 b) (h : wAt a ≠ wAt b) : (m.set a u).set b v = (m.set b v).set a u := by
  cases ha : wBad m a with
  | true => rw [set_bad ha, set_bad (m := m.set b v) (by rw [set_wBad]; exact ha)]
  | false =>
    cases hb : wBad m b with
    | true => rw [set_bad hb, set_bad (m := m.set a u) (by rw [set_wBad]; exact hb)]
    | false =>
      have hA := wBad_nat ha
      have hB := wBad_nat hb
      apply Ram.ext
      rw [set_ok (m := m.set a u) (by rw [set_wBad]; exact hb), set_ok (m := m.set b v) (by rw [set_wBad]; exact ha), set_ok ha, set_ok hb]
      have hl1 : (setW m.l (ofAt (wAt a)).toNat u).length = m.l.length := stW_length hA 4 (by decide)
      have hl2 : (setW m.l (ofAt (wAt b)).toNat v).length = m.l.length := stW_length hB 4 (by decide)
      apply getD_ext
      · show (stW _ _ _ _).length = (stW _ _ _ _).length
        rw [stW_length (by rw [hl1]; exact hB) 4 (by decide), stW_length (by rw [hl2]; exact hA) 4 (by decide), hl1, hl2]
      · intro j
        have e1 := stW_get (l := setW m.l (ofAt (wAt a)).toNat u) (v := v) (by rw [hl1]; exact hB) 4 (by decide) j
        have e2 := stW_get (l := setW m.l (ofAt (wAt b)).toNat v) (v := u) (by rw [hl2]; exact hA) 4 (by decide) j
        have e3 := stW_get (v := u) hA 4 (by decide) j
        have e4 := stW_get (v := v) hB 4 (by decide) j
        unfold setW at *
        rw [e1, e2, e3, e4]
        have hne : (ofAt (wAt a)).toNat + 4 ≤ (ofAt (wAt b)).toNat ∨ (ofAt (wAt b)).toNat + 4 ≤ (ofAt (wAt a)).toNat := by
          unfold I32 at ia ib
          unfold ofAt wAt at *
          omega
        split <;> split <;> first | rfl | omega
theorem eOr0 (e : Int) : eOr 0 e = e := rfl
theorem finR_st (k : Core) (m : Ram) (a v : Int) : finR (Mach.of k (emStore 0 m a v)) = stR k m a v := by
  cases hb : wBad m a with
  | true => simp [finR, Mach.of, emStore, stR, hb, Ram.err, eOr0, set_bad hb, kSel_t]
  | false => simp [finR, Mach.of, emStore, stR, hb, Ram.err, eOr0, kSel_f]
theorem finR_z (k : Core) (m : Ram) : finR (Mach.of k (0, m)) = (k, 0, m) := by simp [finR, Mach.of, kSel_f]
theorem ex_alt (k : Core) (m : Ram) : finR (Mach.alt ⟨k, 0, m⟩) = stR k m (stAt k.wptr) (-2147483647) := finR_st k m _ _
theorem ex_enbs (k : Core) (m : Ram) : finR (Mach.enbs ⟨k, 0, m⟩) = bif k.a != 0 then stR k m (stAt k.wptr) (-2147483645) else (k, 0, m) := by
  simp only [Mach.enbs, enbsY]
  cases k.a != 0
  · exact finR_z k m
  · exact finR_st k m _ _
theorem ex_enbc (k : Core) (m : Ram) : finR (Mach.enbc ⟨k, 0, m⟩) = bif k.a != 0 then enR k m else ({ k with b := k.c }, 0, m) := by
  simp only [Mach.enbc, enbcY, enR]
  cases h0 : k.a == 0
  · simp only [show (k.a != 0) = true by simp [bne, h0], cond_true, cond_false, eOr0]
    cases hb : wBad m k.b with
    | true =>
      have hw : m.word k.b = 0 := by simp [Ram.word, hb]
      have he : m.err k.b = 4 := by simp [Ram.err, hb]
      have hs : ∀ v, emStore 4 m k.b v = (4, m) := fun v => by simp [emStore, eOr]
      have hs2 : ∀ v, emStore 4 m (stAt k.wptr) v = (4, m) := fun v => by simp [emStore, eOr]
      simp only [hw, he, hs, hs2, show ((0 : Int) == -2147483648) = false by decide, cond_true, cond_false]
      cases (0 == ownAt k.wptr k.pri) <;> simp [finR, Mach.of, kSel_t]
    | false =>
      have he : m.err k.b = 0 := by simp [Ram.err, hb]
      simp only [he, cond_false]
      cases m.word k.b == -2147483648
      · simp only [cond_false]
        cases m.word k.b == ownAt k.wptr k.pri
        · exact finR_st { k with b := k.c } m _ _
        · exact finR_z { k with b := k.c } m
      · exact finR_st { k with b := k.c } m _ _
  · simp only [show (k.a != 0) = false by simp [bne, h0], cond_true, cond_false]
    exact finR_z { k with b := k.c } m
theorem ex_altend (k : Core) (m : Ram) : finR (Mach.altend ⟨k, 0, m⟩) = bif wBad m k.wptr then (.zero, 4, m) else ({ k with iptr := IntKind.i32.wrap (k.iptr + m.word k.wptr) }, 0, m) := by
  cases hb : wBad m k.wptr with
  | true => simp [Mach.altend, finR, eOr0, Ram.err, hb, kSel_t]
  | false => simp [Mach.altend, finR, eOr0, Ram.err, hb, kSel_f]
theorem ex_choose (k : Core) (m : Ram) (k2 : Core) (hw : k2.wptr = k.wptr) (ha : k2.a = k.a) : finR (Mach.of { k2 with a := bif m.word k.wptr == -1 then 1 else 0 } (chooseY k.wptr k.a 0 m)) = chR k2 m := by
  simp only [chooseY, chR, hw, ha, eOr0]
  cases hb : wBad m k.wptr with
  | true =>
    have hw : m.word k.wptr = 0 := by simp [Ram.word, hb]
    have he : m.err k.wptr = 4 := by simp [Ram.err, hb]
    simp [hw, he, finR, Mach.of, kSel_t]
  | false =>
    have he : m.err k.wptr = 0 := by simp [Ram.err, hb]
    simp only [he, cond_false]
    cases h1 : m.word k.wptr == -1
    · simp only [show (m.word k.wptr != -1) = true by simp [bne, h1], cond_true, cond_false]
      exact finR_z _ m
    · simp only [show (m.word k.wptr != -1) = false by simp [bne, h1], cond_true, cond_false]
      exact finR_st _ m _ _
theorem ex_diss (k : Core) (m : Ram) : finR (Mach.diss ⟨k, 0, m⟩) = bif k.b != 0 then chR { k with b := k.c } m else ({ k with a := 0, b := k.c }, 0, m) := by
  simp only [Mach.diss]
  cases k.b != 0
  · exact finR_z _ m
  · exact ex_choose k m { k with b := k.c } rfl rfl
theorem ex_disc (k : Core) (m : Ram) : finR (Mach.disc ⟨k, 0, m⟩) = bif k.b != 0 then disR { k with b := 0, c := 0 } m k.c else ({ k with a := 0, b := 0, c := 0 }, 0, m) := by
  simp only [Mach.disc, discA, discY, disR]
  cases h0 : k.b == 0
  · simp only [show (k.b != 0) = true by simp [bne, h0], cond_true, cond_false, eOr0]
    cases hb : wBad m k.c with
    | true =>
      have hw : m.word k.c = 0 := by simp [Ram.word, hb]
      have he : m.err k.c = 4 := by simp [Ram.err, hb]
      have hs : ∀ v, emStore 4 m k.c v = (4, m) := fun v => by simp [emStore, eOr]
      have hs2 : chooseY k.wptr k.a 4 m = (4, m) := by simp [chooseY, emStore, eOr]
      simp only [hw, he, hs, hs2, show ((0 : Int) == -2147483648) = false by decide, cond_true, cond_false]
      cases (0 == ownAt k.wptr k.pri) <;> simp [finR, Mach.of, kSel_t]
    | false =>
      have he : m.err k.c = 0 := by simp [Ram.err, hb]
      simp only [he, cond_false]
      cases h1 : m.word k.c == ownAt k.wptr k.pri
      · simp only [show (m.word k.c != ownAt k.wptr k.pri) = true by simp [bne, h1], cond_false]
        cases h2 : m.word k.c == -2147483648
        · simp only [show (m.word k.c != -2147483648) = true by simp [bne, h2], cond_true, cond_false]
          exact ex_choose k m { k with b := 0, c := 0 } rfl rfl
        · simp only [show (m.word k.c != -2147483648) = false by simp [bne, h2], cond_true, cond_false]
          exact finR_z _ m
      · simp only [show (m.word k.c != ownAt k.wptr k.pri) = false by simp [bne, h1], cond_true]
        cases m.word k.c != -2147483648 <;> exact finR_st _ m _ _
  · simp only [show (k.b != 0) = false by simp [bne, h0], cond_true, cond_false]
    exact finR_z _ m
theorem finR_err (k : Core) (m : Ram) (e : Int) (he : (e != 0) = true) : finR (Mach.of k (e, m)) = (.zero, 4, m) := by simp only [finR, Mach.of, he, cond_true, kSel_t]
theorem waitE_valid {k : Core} {m : Ram} (h : (waitE k m != 0) = false) : k.busy = true ∧ k.wptr % 4 = 0 ∧ ofAt k.wptr ≥ 20 ∧ ofAt k.wptr + 4 ≤ m.l.length := by
  unfold waitE at h
  cases hb : k.busy with
  | false => simp [hb] at h
  | true =>
    simp only [hb, Bool.not_true, cond_false] at h
    cases hv : validB m k.wptr with
    | false => simp [hv] at h
    | true =>
      unfold validB at hv
      cases h1 : (k.wptr % 4 == 0)
      · simp [h1] at hv
      · cases h2 : decide (ofAt k.wptr ≥ 20)
        · simp [h1, h2] at hv
        · simp only [h1, h2, cond_true] at hv
          exact ⟨rfl, by simpa using h1, of_decide_eq_true h2, of_decide_eq_true hv⟩
theorem ex_altwt (k : Core) (m : Ram) (hw : I32 k.wptr) : finR (Mach.altwt ⟨k, 0, m⟩) = wtR k m := by
  simp only [Mach.altwt, altwtY, awGo, wtR, eOr0]
  cases hs : wBad m (stAt k.wptr) with
  | true =>
    have h1 : m.word (stAt k.wptr) = 0 := by simp [Ram.word, hs]
    have h2 : m.err (stAt k.wptr) = 4 := by simp [Ram.err, hs]
    simp [h1, h2, finR, Mach.of, kSel_t, kSel_f]
  | false =>
    have h2 : m.err (stAt k.wptr) = 0 := by simp [Ram.err, hs]
    simp only [h2, show ((0 : Int) != 0) = false by decide, cond_false, Bool.not_false, Bool.true_and]
    cases h1 : m.word (stAt k.wptr) == -2147483645
    · simp only [Bool.not_false, Bool.true_and, cond_false]
      have hlen : (wtM k m).l.length = m.l.length := by simp [wtM, set_len]
      cases hE : waitE k m != 0
      · obtain ⟨hbz, h4, h20, hle⟩ := waitE_valid hE
        have hst : stAt k.wptr = k.wptr - 12 := by unfold stAt ofAt at *; unfold I32 at hw; rw [IntKind.wrap_i32]; omega
        have hip : IntKind.i32.wrap (k.wptr + -4) = k.wptr - 4 := by unfold ofAt at *; unfold I32 at hw; rw [IntKind.wrap_i32]; omega
        have hnb : wBad m k.wptr = false := by
          unfold wBad spanBad ofAt wAt at *
          rw [show decide (k.wptr - k.wptr % 4 + 2147483648 ≥ (m.l.length : Int)) = false by simp; omega]
          simp; omega
        have hE0 : waitE k m = 0 := by simpa using hE
        have hvv : validB m k.wptr = true := by
          unfold waitE at hE0; rw [hbz] at hE0
          cases hv : validB m k.wptr with
          | true => rfl
          | false => simp [hv] at hE0
        have hvv' : validB (wtM k m) k.wptr = true := by unfold validB at *; rw [hlen]; exact hvv
        have he1 : m.err k.wptr = 0 := by simp [Ram.err, hnb]
        have hwa : waR k (wtM k m) = (k.nobody, 0, (wtM k m).set (IntKind.i32.wrap (k.wptr + -4)) k.iptr) := by simp only [waR, hbz, hvv', Bool.not_true, cond_false]
        have hwk : waitK k m = k.nobody := by simp [waitK, hE0, kSel_t]
        have hwm : waitM k m = m.set (IntKind.i32.wrap (k.wptr + -4)) k.iptr := by simp [waitM, hE0]
        have hee : ((waitM k m).err k.wptr) = 0 := by rw [hwm, set_err]; exact he1
        have hes : ∀ x, ((m.set x k.iptr).set k.wptr (-1)).err (stAt k.wptr) = 0 := fun x => by rw [set_err, set_err]; exact h2
        simp only [he1, show ((0 : Int) != 0) = false by decide, cond_false, Bool.not_false, kSel_t, hwk, emStore, eOr0, hee, hwa, show ((0 : Int) == 0) = true by decide, cond_true]
        rw [hwm, hes]
        rw [show (((m.set (IntKind.i32.wrap (k.wptr + -4)) k.iptr).set k.wptr (-1)).set (stAt k.wptr) (-2147483646)) = (wtM k m).set (IntKind.i32.wrap (k.wptr + -4)) k.iptr by
          have i1 : I32 (IntKind.i32.wrap (k.wptr + -4)) := I32_wrap _
          have i2 : I32 (stAt k.wptr) := I32_wrap _
          rw [set_comm m (IntKind.i32.wrap (k.wptr + -4)) k.wptr k.iptr (-1) i1 hw (by rw [hip]; unfold wAt; omega)]
          rw [set_comm (m.set k.wptr (-1)) (IntKind.i32.wrap (k.wptr + -4)) (stAt k.wptr) k.iptr (-2147483646) i1 i2 (by rw [hip, hst]; unfold wAt; omega)]
          rfl]
        exact finR_z _ _
      · have hm : waitM k m = m := by
          unfold waitM; cases h0 : waitE k m == 0
          · rfl
          · simp [bne, h0] at hE
        have hw2 : ((waR k (wtM k m)).2.1 != 0) = true := by
          unfold waR
          unfold waitE at hE
          have hvv : validB (wtM k m) k.wptr = validB m k.wptr := by unfold validB; rw [hlen]
          rw [hvv]
          cases hb : k.busy
          · simp
          · cases hv : validB m k.wptr
            · simp
            · simp [hb, hv] at hE
        simp only [Bool.not_true, kSel_f, cond_true, hw2, hm]
        rw [finR_err k m _ hE]
        cases m.err k.wptr != 0 <;> rfl
    · simp only [Bool.not_true, Bool.false_and, kSel_f, cond_true]
      rw [finR_st]
      unfold stR
      cases hb : wBad m k.wptr <;> simp [Ram.err, hb]
end Go.Proofs

namespace Go.Proofs
open Go Go.Sx
set_option maxRecDepth 10000
noncomputable abbrev eREnable : Ent := .st (conS (P := Try.prog) (f := f_r31_enable) fun cargs σ0 => match cargs, σ0 with
  | [.agg cs, .s (.sl 0 0 n cap)], [.view xs] => withCore cs fun k hk => some ⟨.ex (Ram × Core × Int × Ram) fun p => .ask (n = p.1.l.length ∧ xs = bytesI p.1.l ∧ k.ok ∧ p.1.l.length ≤ cap ∧ enR k p.1 = p.2)
      (RES p.1 p.2.2.2 p.2.1 p.2.2.1), fun K h => by
      obtain ⟨⟨m, k', e', m'⟩, ⟨e1, e2, h1, h2, h3⟩, h⟩ := h
      dsimp only at e1 e2 h1 h2 h3 h
      subst e1; subst e2; subst hk
      exact Renable_c k m cap k' e' m' h1 h2 h3 K h⟩
  | _, _ => none)
noncomputable abbrev eRWaitA : Ent := .st (conS (P := Try.prog) (f := f_r31_wait) fun cargs σ0 => match cargs, σ0 with
  | [.agg cs, .s (.sl 0 0 n cap)], [.view xs] => withCore cs fun k hk => some ⟨.ex (Ram × Core × Int × Ram) fun p => .ask (n = p.1.l.length ∧ xs = bytesI p.1.l ∧ k.ok ∧ p.1.l.length ≤ cap ∧ wtR k p.1 = p.2)
      (RES p.1 p.2.2.2 p.2.1 p.2.2.1), fun K h => by
      obtain ⟨⟨m, k', e', m'⟩, ⟨e1, e2, h1, h2, h3⟩, h⟩ := h
      dsimp only at e1 e2 h1 h2 h3 h
      subst e1; subst e2; subst hk
      exact Rwait_c k m cap k' e' m' h1 h2 h3 K h⟩
  | _, _ => none)
noncomputable abbrev eRDisable : Ent := .st (conS (P := Try.prog) (f := f_r31_disable) fun cargs σ0 => match cargs, σ0 with
  | [.agg cs, .s (.sl 0 0 n cap), .s (.int .i32 ch)], [.view xs] => withCore cs fun k hk => some ⟨.ex (Ram × Core × Int × Ram) fun p => .ask (n = p.1.l.length ∧ xs = bytesI p.1.l ∧ (k.ok ∧ I32 ch) ∧ p.1.l.length ≤ cap ∧ disR k p.1 ch = p.2)
      (RES p.1 p.2.2.2 p.2.1 p.2.2.1), fun K h => by
      obtain ⟨⟨m, k', e', m'⟩, ⟨e1, e2, ⟨h1, h4⟩, h2, h3⟩, h⟩ := h
      dsimp only at e1 e2 h1 h2 h3 h
      subst e1; subst e2; subst hk
      exact Rdisable_c k m cap ch k' e' m' h1 h4 h2 h3 K h⟩
  | _, _ => none)
noncomputable abbrev ctRE : CT := [(f_r03_Word, eRWordT), (f_r01_Wrap, .pure spRWrap), (f_r31_Mine, .pure spRMine), (f_r31_linked, .pure spRlinked), (f_r31_at, .pure spRat), (f_r31_store, eRStore), (f_r31_choose, eRChoose), (f_r31_enable, eREnable), (f_r31_wait, eRWaitA), (f_r31_disable, eRDisable)]
theorem ctRE_ok : CTok Try.prog ctRE := ⟨con_ok cal_r03_Word _, ceRWrap, ceRMine, ceRlinked, ceRat, con_ok cal_r31_store _, con_ok cal_r31_choose _, con_ok cal_r31_enable _, con_ok cal_r31_wait _, con_ok cal_r31_disable _, trivial⟩
theorem pri_ref (p : Int) : (bif p != 0 then p != 1 else false) = (p.fdiv 2 != 0) := by
  have e : p.fdiv 2 = p / 2 := Int.fdiv_eq_ediv_of_nonneg _ (by omega)
  rw [e, Bool.eq_iff_iff]
  cases h0 : (p != 0)
  · simp at h0; subst h0; simp
  · simp at h0
    simp
    omega
theorem link_ref (k : Core) (o : Int) : (bif (bif !k.busy then true else (bif (bif o == 72 then k.a != 0 else false) then decide (k.b < -2147483616) else false)) then true else (bif (bif o == 47 then k.b != 0 else false) then decide (k.c < -2147483616) else false)) = (bif !k.busy then true else linkedB k o) := by
  unfold linkedB
  cases k.busy
  · rfl
  · simp only [Bool.not_true, cond_false]
theorem execR_go {k : Core} {m : Ram} {fn o : Int} (h1 : (bif k.pri != 0 then k.pri != 1 else false) = false) (h2 : (!mineB fn o) = false)
    (h3 : (bif (bif !k.busy then true else (bif (bif o == 72 then k.a != 0 else false) then decide (k.b < -2147483616) else false)) then true else (bif (bif o == 47 then k.b != 0 else false) then decide (k.c < -2147483616) else false)) = false) : execR k m fn o = finR (opM k m o) := by
  rw [link_ref] at h3
  rw [pri_ref] at h1
  simp only [execR, h1, h2, h3, cond_false]
set_option maxHeartbeats 4000000 in
theorem RExec_c (k : Core) (m : Ram) (cap : Nat) (fn o : Int) (k' : Core) (e' : Int) (m' : Ram) (hok : k.ok) (hc : m.l.length ≤ cap) (hx : execR k m fn o = (k', e', m')) :
    Con Try.prog f_r31_Exec [.agg k.sv, .s (.sl 0 0 m.l.length cap), .agg [.int .u8 fn, .int .i32 o]] [.view (bytesI m.l)] (RES m m' k' e') := by
  intro K hK
  have h3i : I32 (-3) := i32B_ok (by decide)
  have h0i : I32 0 := i32B_ok (by decide)
  refine enter fn_r31_Exec rfl nt_r31_Exec rfl rfl (fun φ w0 β0 F => ?_)
  refine c_run tt_ok ctRE_ok k_r31_Exec [] 60 (by kernel_rfl) ?_
  refine ⟨fun h1 => ?_, fun h1 => ⟨trivial, fun h2 => ?_, fun h2 => ⟨fun _ => hok.b, fun _ => hok.c, fun h3 => ?_, fun h3 => ?_⟩⟩⟩
  · rw [show execR k m fn o = (.zero, 2, m) by simp only [execR, ← pri_ref, show (bif k.pri != 0 then k.pri != 1 else false) = true from h1, cond_true]] at hx
    cases hx
    refine WpE.into (aliasSlot 7 0 0 m.l.length cap rfl rfl) ?_
    refine fin_k tt_ok (rs := rs_r31_Exec) rfl rfl (hK cap hc) [0, 4] rfl ?_ rfl rfl rfl rfl
    rw [seg_all]; rfl
  · rw [show execR k m fn o = (.zero, 280, m) by simp only [execR, ← pri_ref, show (bif k.pri != 0 then k.pri != 1 else false) = false from h1, h2, cond_true, cond_false]] at hx
    cases hx
    refine WpE.into (aliasSlot 7 0 0 m.l.length cap rfl rfl) ?_
    refine fin_k tt_ok (rs := rs_r31_Exec) rfl rfl (hK cap hc) [0, 4] rfl ?_ rfl rfl rfl rfl
    rw [seg_all]; rfl
  · rw [show execR k m fn o = (.zero, 8, m) by
      have h3' := h3
      rw [link_ref] at h3'
      simp only [execR, ← pri_ref, show (bif k.pri != 0 then k.pri != 1 else false) = false from h1, h2, h3', cond_true, cond_false]] at hx
    cases hx
    refine WpE.into (aliasSlot 7 0 0 m.l.length cap rfl rfl) ?_
    refine fin_k tt_ok (rs := rs_r31_Exec) rfl rfl (hK cap hc) [0, 4] rfl ?_ rfl rfl rfl rfl
    rw [seg_all]; rfl
  · have hgo := execR_go (m := m) h1 h2 h3
    rw [hgo] at hx
    refine ⟨fun g0 => ?_, fun g0 => ⟨fun g1 => ⟨fun i1 => ?_, fun i1 => ?_⟩, fun g1 => ⟨fun g2 => ⟨fun i2 => ?_, fun i2 => ?_⟩, fun g2 => ⟨fun g3 => ?_, fun g3 => ⟨fun g4 => ?_, fun g4 => ⟨fun g5 => ⟨fun i5 => ?_, fun i5 => ?_⟩, fun g5 => ⟨fun i6 => ?_, fun i6 => ?_⟩⟩⟩⟩⟩⟩⟩
    · obtain rfl : o = 67 := by simpa using g0
      replace hx : finR (Mach.alt ⟨k, 0, m⟩) = (k', e', m') := hx
      rw [ex_alt] at hx
      refine c_ways tt_ok ctRE_ok k_r31_Exec rfl rfl ?_
      repeat' (first | exact trivial | exact ⟨hok.wptr, h3i⟩ | (refine ⟨(m, k', e', m'), ⟨rfl, rfl, I32_wrap _, hc, hx⟩, fun c h9 => ?_⟩) | (refine And.intro ?_ ?_))
      all_goals
        refine e_run tt_ok ctRE_ok k_r31_Exec [] 60 (by kernel_rfl) ?_
        refine fin_k tt_ok (rs := rs_r31_Exec) rfl rfl (hK c (by assumption)) [0, 4] rfl rfl rfl rfl rfl rfl
    · obtain rfl : o = 73 := by simpa using g1
      replace hx : finR (Mach.enbs ⟨k, 0, m⟩) = (k', e', m') := hx
      simp only [ex_enbs, i1, cond_true] at hx
      refine c_ways tt_ok ctRE_ok k_r31_Exec rfl rfl ?_
      repeat' (first | exact trivial | exact ⟨hok.wptr, h3i⟩ | (refine ⟨(m, k', e', m'), ⟨rfl, rfl, I32_wrap _, hc, hx⟩, fun c h9 => ?_⟩) | (refine And.intro ?_ ?_))
      all_goals
        refine e_run tt_ok ctRE_ok k_r31_Exec [] 60 (by kernel_rfl) ?_
        refine fin_k tt_ok (rs := rs_r31_Exec) rfl rfl (hK c (by assumption)) [0, 4] rfl rfl rfl rfl rfl rfl
    · obtain rfl : o = 73 := by simpa using g1
      replace hx : finR (Mach.enbs ⟨k, 0, m⟩) = (k', e', m') := hx
      simp only [ex_enbs, i1, cond_false] at hx
      cases hx
      refine WpE.into (aliasSlot 7 0 0 m.l.length cap rfl rfl) ?_
      refine fin_k tt_ok (rs := rs_r31_Exec) rfl rfl (hK cap hc) [0, 4] rfl ?_ rfl rfl rfl rfl
      rw [seg_all]; rfl
    · obtain rfl : o = 72 := by simpa using g2
      replace hx : finR (Mach.enbc ⟨k, 0, m⟩) = (k', e', m') := hx
      simp only [ex_enbc, i2, cond_true] at hx
      refine ⟨(m, k', e', m'), ⟨rfl, rfl, hok, hc, hx⟩, fun c h9 => ?_⟩
      exact fin_k tt_ok (rs := rs_r31_Exec) rfl rfl (hK c h9) [0, 4] rfl rfl rfl rfl rfl rfl
    · obtain rfl : o = 72 := by simpa using g2
      replace hx : finR (Mach.enbc ⟨k, 0, m⟩) = (k', e', m') := hx
      simp only [ex_enbc, i2, cond_false] at hx
      cases hx
      refine WpE.into (aliasSlot 7 0 0 m.l.length cap rfl rfl) ?_
      refine fin_k tt_ok (rs := rs_r31_Exec) rfl rfl (hK cap hc) [0, 4] rfl ?_ rfl rfl rfl rfl
      rw [seg_all]; rfl
    · obtain rfl : o = 68 := by simpa using g3
      replace hx : finR (Mach.altwt ⟨k, 0, m⟩) = (k', e', m') := hx
      rw [ex_altwt k m hok.wptr] at hx
      refine ⟨(m, k', e', m'), ⟨rfl, rfl, hok, hc, hx⟩, fun c h9 => ?_⟩
      exact fin_k tt_ok (rs := rs_r31_Exec) rfl rfl (hK c h9) [0, 4] rfl rfl rfl rfl rfl rfl
    · obtain rfl : o = 69 := by simpa using g4
      replace hx : finR (Mach.altend ⟨k, 0, m⟩) = (k', e', m') := hx
      rw [ex_altend] at hx
      refine ⟨m, ⟨rfl, rfl, hok.wptr⟩, fun h5 => ?_, fun h5 => ?_⟩
      · simp only [err_bad h5, cond_true] at hx
        cases hx
        refine WpE.into (aliasSlot 7 0 0 m.l.length cap rfl rfl) ?_
        refine fin_k tt_ok (rs := rs_r31_Exec) rfl rfl (hK cap hc) [0, 4] rfl ?_ rfl rfl rfl rfl
        rw [seg_all]; rfl
      · simp only [err_ok h5, cond_false] at hx
        cases hx
        refine ⟨⟨i64_lo _, i64_hi _⟩, ?_⟩
        have e : IntKind.i32.wrap (IntKind.i64.wrap (IntKind.i64.wrap k.iptr + IntKind.i64.wrap (m.word k.wptr))) = IntKind.i32.wrap (k.iptr + m.word k.wptr) := by
          simp only [IntKind.wrap_i32, IntKind.wrap_i64]; omega
        refine WpE.into (aliasSlot 7 0 0 m.l.length cap rfl rfl) ?_
        refine fin_k tt_ok (rs := rs_r31_Exec) rfl rfl (hK cap hc) [0, 4] ?_ ?_ rfl rfl rfl rfl
        · rw [← e]; rfl
        · rw [seg_all]; rfl
    · obtain rfl : o = 48 := by simpa using g5
      replace hx : finR (Mach.diss ⟨k, 0, m⟩) = (k', e', m') := hx
      simp only [ex_diss, i5, cond_true] at hx
      refine ⟨(m, k', e', m'), ⟨rfl, rfl, ⟨hok.1, hok.3, hok.3, hok.4, hok.5, hok.6, hok.7, hok.8, hok.9, hok.10, hok.11, hok.12, hok.13, hok.14, hok.15, hok.16, hok.17, hok.18, hok.19, hok.20, hok.21, hok.22⟩, hc, hx⟩, fun c h9 => ?_⟩
      exact fin_k tt_ok (rs := rs_r31_Exec) rfl rfl (hK c h9) [0, 4] rfl rfl rfl rfl rfl rfl
    · obtain rfl : o = 48 := by simpa using g5
      replace hx : finR (Mach.diss ⟨k, 0, m⟩) = (k', e', m') := hx
      simp only [ex_diss, i5, cond_false] at hx
      cases hx
      refine WpE.into (aliasSlot 7 0 0 m.l.length cap rfl rfl) ?_
      refine fin_k tt_ok (rs := rs_r31_Exec) rfl rfl (hK cap hc) [0, 4] rfl ?_ rfl rfl rfl rfl
      rw [seg_all]; rfl
    · have o47 : o = 47 := by
        simp at h2
        unfold mineB isOp at h2
        simp only [show (o == 67) = false from g0, show (o == 73) = false from g1, show (o == 72) = false from g2, show (o == 68) = false from g3, show (o == 48) = false from g5, show (o == 69) = false from g4, cond_false] at h2
        cases h15 : fn == 15
        · simp [h15] at h2
        · cases h47 : o == 47
          · simp [h15, h47] at h2
          · simpa using h47
      subst o47
      replace hx : finR (Mach.disc ⟨k, 0, m⟩) = (k', e', m') := hx
      simp only [ex_disc, i6, cond_true] at hx
      refine ⟨(m, k', e', m'), ⟨rfl, rfl, ⟨⟨hok.1, h0i, h0i, hok.4, hok.5, hok.6, hok.7, hok.8, hok.9, hok.10, hok.11, hok.12, hok.13, hok.14, hok.15, hok.16, hok.17, hok.18, hok.19, hok.20, hok.21, hok.22⟩, hok.c⟩, hc, hx⟩, fun c h9 => ?_⟩
      exact fin_k tt_ok (rs := rs_r31_Exec) rfl rfl (hK c h9) [0, 4] rfl rfl rfl rfl rfl rfl
    · have o47 : o = 47 := by
        simp at h2
        unfold mineB isOp at h2
        simp only [show (o == 67) = false from g0, show (o == 73) = false from g1, show (o == 72) = false from g2, show (o == 68) = false from g3, show (o == 48) = false from g5, show (o == 69) = false from g4, cond_false] at h2
        cases h15 : fn == 15
        · simp [h15] at h2
        · cases h47 : o == 47
          · simp [h15, h47] at h2
          · simpa using h47
      subst o47
      replace hx : finR (Mach.disc ⟨k, 0, m⟩) = (k', e', m') := hx
      simp only [ex_disc, i6, cond_false] at hx
      cases hx
      refine WpE.into (aliasSlot 7 0 0 m.l.length cap rfl rfl) ?_
      refine fin_k tt_ok (rs := rs_r31_Exec) rfl rfl (hK cap hc) [0, 4] rfl ?_ rfl rfl rfl rfl
      rw [seg_all]; rfl
end Go.Proofs

namespace Go.Proofs
open Go Go.Sx
set_option maxRecDepth 10000
theorem Bytes_v (l : List Int) (hn : l.length ≤ 65536) (h0 : 1 ≤ l.length) : Con Try.prog f_mem_Mem_Bytes [.s (.loc 0 0)] [mBox l.length, mOwn l]
    (.ret (.t (.s (.sl 2 0 l.length l.length))) [mBox l.length, mOwn l, .view (bytesI l)]) := by
  intro K hK
  refine enter fn_mem_Mem_Bytes rfl nt_mem_Mem_Bytes rfl rfl (fun φ w0 β0 F => ?_)
  refine c_run tt_ok ctN_ok k_mem_Mem_Bytes [] 60 (by kernel_rfl) ?_
  refine ⟨fun h => ?_, fun h => ?_⟩
  · simp at h; subst h; simp at h0
  · refine ⟨l.length, ⟨rfl, rfl, by simp only [maxLen]; omega, by omega⟩, ?_⟩
    refine ⟨l.length, ⟨by simp, by simp, by simp, ?_⟩, ?_⟩
    · rw [seg_bytesI]; exact bytesI_one _
    · show WpE _ _ _ _ _
      refine e_freeze 2 rfl rfl ?_
      refine fin_k tt_ok (rs := rs_mem_Mem_Bytes) rfl rfl hK [0, 1, 2] rfl ?_ rfl rfl rfl rfl
      show pickL [mBox l.length, mOwn l, Ch.view (setV (List.replicate l.length (Value.int .u8 0)) 0 (seg (bytesI l) 0 l.length))] [0, 1, 2] = _
      rw [copy_all l _ (by simp)]; rfl
noncomputable abbrev eBytesV : Ent := .st (conS (P := Try.prog) (f := f_mem_Mem_Bytes) fun cargs σ0 => match cargs, σ0 with
  | [.s (.loc 0 0)], [.blk 65 [.sl 1 0 n n'], .own 5 1 c xs] => some ⟨.ex Ram fun m => .ask (xs = bytesI m.l ∧ n = m.l.length ∧ n' = m.l.length ∧ c = m.l.length)
      (.ret (.t (.s (.sl 2 0 m.l.length m.l.length))) [mBox m.l.length, mOwn m.l, .view (bytesI m.l)]), fun K h => by
      obtain ⟨m, ⟨e1, e2, e3, e4⟩, h⟩ := h
      subst e1; subst e2; subst e3; subst e4
      have := m.lo
      exact Bytes_v m.l m.hi (by omega) K h⟩
  | _, _ => none)
theorem Size_n : Con Try.prog f_mem_Mem_Size [.s (.raw (.pointer none))] [] (.ret (.t (.s (.int .i64 0))) []) := by
  intro K hK
  refine enter fn_mem_Mem_Size rfl nt_mem_Mem_Size rfl rfl (fun φ w0 β0 F => ?_)
  refine c_run tt_ok (ct := []) trivial k_mem_Mem_Size [] 60 (by kernel_rfl) ?_
  refine ⟨fun _ => ?_, fun h => absurd h (by decide)⟩
  exact fin_k tt_ok (rs := rs_mem_Mem_Size) rfl rfl hK [] rfl rfl rfl rfl rfl rfl
noncomputable abbrev eSizeN : Ent := .st (conS (P := Try.prog) (f := f_mem_Mem_Size) fun cargs σ0 => match cargs, σ0 with
  | [.s (.raw (.pointer none))], [] => some ⟨.ret (.t (.s (.int .i64 0))) [], fun K h => Size_n K h⟩
  | _, _ => none)
noncomputable abbrev ctXn : CT := [(f_mem_Mem_Size, eSizeN)]
theorem ctXn_ok : CTok Try.prog ctXn := ⟨con_ok cal_mem_Mem_Size _, trivial⟩
theorem Exec_n (k : Core) (fn o : Int) : Con Try.prog f_alt_Exec [.agg k.sv, .s (.raw (.pointer none)), .agg [.int .u8 fn, .int .i32 o]] [] (.ret (.tup [.agg Core.zero.sv, .s (.int .i64 1)]) []) := by
  intro K hK
  refine enter fn_alt_Exec rfl nt_alt_Exec rfl rfl (fun φ w0 β0 F => ?_)
  refine c_run tt_ok ctXn_ok k_alt_Exec [] 60 (by kernel_rfl) ?_
  refine ⟨fun _ => ?_, fun h => absurd h (by decide)⟩
  exact fin_k tt_ok (rs := rs_alt_Exec) rfl rfl hK [] rfl rfl rfl rfl rfl rfl
noncomputable abbrev eExec2 : Ent := .st (conS (P := Try.prog) (f := f_alt_Exec) fun cargs σ0 => match cargs, σ0 with
  | [.agg cs, .s (.loc 0 0), .agg [.int .u8 fn, .int .i32 o]], [.blk 65 [.sl 1 0 n n'], .own 5 1 c xs] => withCore cs fun k hk => some ⟨.ex (Ram × Core × Int × Ram) fun p => .ask (n = p.1.l.length ∧ n' = p.1.l.length ∧ c = p.1.l.length ∧ xs = bytesI p.1.l ∧ k.ok ∧ execR k p.1 fn o = p.2)
      (.ret (.tup [.agg p.2.1.sv, .s (.int .i64 p.2.2.1)]) [mBox p.2.2.2.l.length, mOwn p.2.2.2.l]), fun K h => by
      obtain ⟨⟨m, k', e', m'⟩, ⟨e1, e2, e3, e4, h1, h2⟩, h⟩ := h
      dsimp only at e1 e2 e3 e4 h2 h
      subst e1; subst e2; subst e3; subst e4; subst hk
      refine Exec_c k m fn o h1 K ?_
      rw [h2]; exact h⟩
  | [.agg cs, .s (.raw (.pointer none)), .agg [.int .u8 fn, .int .i32 o]], [] => withCore cs fun k hk => some ⟨.ret (.tup [.agg Core.zero.sv, .s (.int .i64 1)]) [], fun K h => by
      subst hk
      exact Exec_n k fn o K h⟩
  | _, _ => none)
noncomputable abbrev eRExec : Ent := .st (conS (P := Try.prog) (f := f_r31_Exec) fun cargs σ0 => match cargs, σ0 with
  | [.agg cs, .s (.sl 0 0 n cap), .agg [.int .u8 fn, .int .i32 o]], [.view xs] => withCore cs fun k hk => some ⟨.ex (Ram × Core × Int × Ram) fun p => .ask (n = p.1.l.length ∧ xs = bytesI p.1.l ∧ k.ok ∧ p.1.l.length ≤ cap ∧ execR k p.1 fn o = p.2)
      (RES p.1 p.2.2.2 p.2.1 p.2.2.1), fun K h => by
      obtain ⟨⟨m, k', e', m'⟩, ⟨e1, e2, h1, h2, h3⟩, h⟩ := h
      dsimp only at e1 e2 h1 h2 h3 h
      subst e1; subst e2; subst hk
      exact RExec_c k m cap fn o k' e' m' h1 h2 h3 K h⟩
  | _, _ => none)
noncomputable abbrev ctAE : CT := [(f_l31_memory, eMemory), (f_l31_operations, in_l31_operations []), (f_mem_From, eFromT), (f_mem_Mem_SetWord, eSetWordT), (f_alt_Exec, eExec2), (f_r31_Exec, eRExec), (f_mem_Mem_Bytes, eBytesV), (f_l31_works, .pure spWorks)]
theorem ctAE_ok : CTok Try.prog ctAE := ⟨con_ok cal_l31_memory _, in_l31_operations_ok (ct := []) trivial, con_ok cal_mem_From _, con_ok cal_mem_Mem_SetWord _, con_ok cal_alt_Exec _, con_ok cal_r31_Exec _, con_ok cal_mem_Mem_Bytes _, ceWorks, trivial⟩
set_option maxHeartbeats 8000000 in
theorem AltExecs_c (k : Core) (l : List Int) (cap : Nat) (fn arg o st : Int) (hok : k.ok) (hl : ∀ b ∈ l, 0 ≤ b ∧ b < 256) (hc : l.length ≤ cap) (hm : cap ≤ maxLen) (ho : 0 ≤ o ∧ o < 256) :
    Con Try.prog f_l31_AltExecs [.agg k.sv, .s (.sl 0 0 l.length cap), .agg [.int .u8 fn, .int .i32 arg], .s (.int .u8 o), .s (.int .u8 st)] [.view (bytesI l)] (.ret (.t (.s (.bool true))) [.view (bytesI l)]) := by
  intro K hK
  refine enter fn_l31_AltExecs rfl nt_l31_AltExecs rfl rfl (fun φ w0 β0 F => ?_)
  refine c_run tt_ok ctAE_ok k_l31_AltExecs [] 60 (by kernel_rfl) ?_
  refine ⟨l, ⟨rfl, rfl, hc, hm, hl⟩, fun c1 hc1 => ?_⟩
  have hoj : (IntKind.i64.wrap o).tmod ((8 : Nat) : Int) = ((o % 8).toNat : Int) := by
    rw [wrap64 (by omega) (by omega), Int.tmod_eq_emod_of_nonneg ho.1]; omega
  have hlt : (o % 8).toNat < 8 := by omega
  generalize hj : (o % 8).toNat = j at hoj hlt
  obtain ⟨ov, hov⟩ : ∃ ov : Int, (List.map SV.cv [SV.int IntKind.i32 67, SV.int IntKind.i32 73, SV.int IntKind.i32 72, SV.int IntKind.i32 68, SV.int IntKind.i32 48, SV.int IntKind.i32 47, SV.int IntKind.i32 69, SV.int IntKind.i32 81])[j]? = some (SV.int .i32 ov).cv := by
    match j, hlt with
    | 0, _ => exact ⟨_, rfl⟩
    | 1, _ => exact ⟨_, rfl⟩
    | 2, _ => exact ⟨_, rfl⟩
    | 3, _ => exact ⟨_, rfl⟩
    | 4, _ => exact ⟨_, rfl⟩
    | 5, _ => exact ⟨_, rfl⟩
    | 6, _ => exact ⟨_, rfl⟩
    | 7, _ => exact ⟨_, rfl⟩
  have hov2 : (List.map SV.cv [SV.int IntKind.i32 67, SV.int IntKind.i32 73, SV.int IntKind.i32 72, SV.int IntKind.i32 68, SV.int IntKind.i32 48, SV.int IntKind.i32 47, SV.int IntKind.i32 69, SV.int IntKind.i32 81])[0 + j * (0 + 1)]? = some (SV.int .i32 ov).cv := by
    rw [show 0 + j * (0 + 1) = j by omega]; exact hov
  have hpr := and1_i64 k.pri
  have hok2 : Core.ok { k with pri := bits .and .i64 k.pri 1, busy := true } := ⟨hok.1, hok.2, hok.3, hok.4, hok.5, by constructor <;> (show _ ≤ _) <;> simp only [hpr] <;> omega, hok.7, hok.8, hok.9, hok.10, hok.11, hok.12, hok.13, hok.14, hok.15, hok.16, hok.17, hok.18, hok.19, hok.20, hok.21, hok.22⟩
  refine ⟨(by decide : ((8 : Nat) : Int) ≠ 0), j, ⟨hoj, hlt, by simp; omega⟩, .int .i32 ov, rfl, hov2, ?_⟩
  show WpC _ _ _ _ _
  refine c_loop (α := Nat) (fun i => i ≤ 2) (fun i => 2 - i)
    (fun i => [(1, .t (.s (.sl 3 0 1024 c1)), none), (4, .t (.s (.int .u8 st)), none), (5, .t (.s (.loc 1 0)), none), (7, .t (.s (.loc 2 0)), none), (12, .t (.s (.loc 4 0)), none), (45, .t (.agg [.int .u8 fn, .int .i32 arg, .int .u8 15, .int .i32 ov]), none), (46, .t (.s (.int .i64 (i : Int))), none)])
    (fun _ => [.view (bytesI l), .blk 32 k.sv, .blk 23 [.int .u8 fn, .int .i32 arg], .own 5 1 c1 (bytesI (memR l hl).l), .blk 32 (Core.sv ({ k with pri := bits .and .i64 k.pri 1, busy := true } : Core))]) 0 (by decide) ?_ ?_
  · exact into [0, 1, 2, 3, 5] ⟨⟨_, rfl, rfl⟩, ⟨_, rfl, rfl⟩, ⟨_, rfl, rfl⟩, ⟨_, rfl, rfl⟩, ⟨_, rfl, rfl⟩, ⟨_, rfl, rfl⟩, ⟨_, rfl, rfl⟩, trivial⟩ ⟨_, rfl, rfl⟩ rfl rfl rfl rfl
  · intro i hi
    rcases (show i = 0 ∨ i = 1 ∨ i = 2 by omega) with rfl | rfl | rfl
    · skip
      dsimp only
      refine c_run' tt_ok ctAE_ok k_l31_AltExecs [] 60 (by kernel_rfl) (by kernel_rfl) ?_
      refine ⟨fun _ => ?_, fun h => absurd h (by decide)⟩
      refine ⟨fun _ => ?_, fun h => absurd h (by decide)⟩
      refine ⟨memR l hl, ⟨rfl, (memR_length l hl).symm, rfl⟩, fun h => absurd h (by decide), fun _ => ?_⟩
      refine ⟨fun hs => ?_, fun hs => ?_⟩
      · refine ⟨memR l hl, ⟨rfl, rfl, rfl, rfl, I32_wrap _⟩, _, ⟨rfl, rfl, rfl, rfl, hok.wptr⟩, ?_⟩
        generalize ((memR l hl).set _ _).set k.wptr (-1) = m
        refine ⟨m, ⟨rfl, rfl, rfl, rfl⟩, ?_⟩
        rcases hx : execR k m fn arg with ⟨k2, e2, m2⟩
        refine ⟨(m, k2, e2, m2), ⟨rfl, rfl, rfl, rfl, hok, hx⟩, ?_⟩
        refine ⟨(m, k2, e2, m2), ⟨rfl, rfl, hok, Nat.le_refl _, hx⟩, fun c2 h2 => ?_⟩
        refine c_ways tt_ok ctAE_ok k_l31_AltExecs rfl rfl ?_
        repeat' (first | exact trivial | (refine ⟨m2.l, fun _ => ⟨seg_all m2, rfl⟩, ?_⟩) | (refine ⟨m2, ⟨rfl, rfl, rfl, rfl⟩, ?_⟩) | (refine And.intro ?_ ?_) | (intro h; simp at h; done) | (refine fun _ => ?_))
        all_goals
          refine e_run tt_ok ctAE_ok k_l31_AltExecs [] 60 (by kernel_rfl) ?_
          refine ⟨fun h => ?_, fun _ => ?_⟩
          · exfalso; simp at h
          · refine e_again 1 (by decide) (by decide) (into [0, 1, 2, 3, 4] ⟨⟨_, rfl, rfl⟩, ⟨_, rfl, rfl⟩, ⟨_, rfl, rfl⟩, ⟨_, rfl, rfl⟩, ⟨_, rfl, rfl⟩, ⟨_, rfl, rfl⟩, ⟨_, rfl, rfl⟩, trivial⟩ ⟨_, rfl, rfl⟩ rfl rfl rfl rfl)
      · have hm0 : ∃ m, m = memR l hl := ⟨_, rfl⟩
        obtain ⟨m, hmm⟩ := hm0
        rw [← hmm]
        refine ⟨m, ⟨rfl, rfl, rfl, rfl⟩, ?_⟩
        rcases hx : execR k m fn arg with ⟨k2, e2, m2⟩
        refine ⟨(m, k2, e2, m2), ⟨rfl, rfl, rfl, rfl, hok, hx⟩, ?_⟩
        refine ⟨(m, k2, e2, m2), ⟨rfl, rfl, hok, Nat.le_refl _, hx⟩, fun c2 h2 => ?_⟩
        refine c_ways tt_ok ctAE_ok k_l31_AltExecs rfl rfl ?_
        repeat' (first | exact trivial | (refine ⟨m2.l, fun _ => ⟨seg_all m2, rfl⟩, ?_⟩) | (refine ⟨m2, ⟨rfl, rfl, rfl, rfl⟩, ?_⟩) | (refine And.intro ?_ ?_) | (intro h; simp at h; done) | (refine fun _ => ?_))
        all_goals
          refine e_run tt_ok ctAE_ok k_l31_AltExecs [] 60 (by kernel_rfl) ?_
          refine ⟨fun h => ?_, fun _ => ?_⟩
          · exfalso; simp at h
          · refine e_again 1 (by decide) (by decide) (into [0, 1, 2, 3, 4] ⟨⟨_, rfl, rfl⟩, ⟨_, rfl, rfl⟩, ⟨_, rfl, rfl⟩, ⟨_, rfl, rfl⟩, ⟨_, rfl, rfl⟩, ⟨_, rfl, rfl⟩, ⟨_, rfl, rfl⟩, trivial⟩ ⟨_, rfl, rfl⟩ rfl rfl rfl rfl)
    · skip
      dsimp only
      refine c_run' tt_ok ctAE_ok k_l31_AltExecs [] 60 (by kernel_rfl) (by kernel_rfl) ?_
      refine ⟨fun _ => ?_, fun h => absurd h (by decide)⟩
      refine ⟨fun h => absurd h (by decide), fun _ => ?_⟩
      refine ⟨memR l hl, ⟨rfl, (memR_length l hl).symm, rfl⟩, fun h => absurd h (by decide), fun _ => ?_⟩
      refine ⟨fun hs => ?_, fun hs => ?_⟩
      · refine ⟨memR l hl, ⟨rfl, rfl, rfl, rfl, I32_wrap _⟩, _, ⟨rfl, rfl, rfl, rfl, hok2.wptr⟩, ?_⟩
        generalize ((memR l hl).set _ _).set k.wptr (-1) = m
        refine ⟨m, ⟨rfl, rfl, rfl, rfl⟩, ?_⟩
        rcases hx : execR { k with pri := bits .and .i64 k.pri 1, busy := true } m 15 ov with ⟨k2, e2, m2⟩
        refine ⟨(m, k2, e2, m2), ⟨rfl, rfl, rfl, rfl, hok2, hx⟩, ?_⟩
        refine ⟨(m, k2, e2, m2), ⟨rfl, rfl, hok2, Nat.le_refl _, hx⟩, fun c2 h2 => ?_⟩
        refine c_ways tt_ok ctAE_ok k_l31_AltExecs rfl rfl ?_
        repeat' (first | exact trivial | (refine ⟨m2.l, fun _ => ⟨seg_all m2, rfl⟩, ?_⟩) | (refine ⟨m2, ⟨rfl, rfl, rfl, rfl⟩, ?_⟩) | (refine And.intro ?_ ?_) | (intro h; simp at h; done) | (refine fun _ => ?_))
        all_goals
          refine e_run tt_ok ctAE_ok k_l31_AltExecs [] 60 (by kernel_rfl) ?_
          refine ⟨fun h => ?_, fun _ => ?_⟩
          · exfalso; simp at h
          · refine e_again 2 (by decide) (by decide) (into [0, 1, 2, 3, 4] ⟨⟨_, rfl, rfl⟩, ⟨_, rfl, rfl⟩, ⟨_, rfl, rfl⟩, ⟨_, rfl, rfl⟩, ⟨_, rfl, rfl⟩, ⟨_, rfl, rfl⟩, ⟨_, rfl, rfl⟩, trivial⟩ ⟨_, rfl, rfl⟩ rfl rfl rfl rfl)
      · have hm0 : ∃ m, m = memR l hl := ⟨_, rfl⟩
        obtain ⟨m, hmm⟩ := hm0
        rw [← hmm]
        refine ⟨m, ⟨rfl, rfl, rfl, rfl⟩, ?_⟩
        rcases hx : execR { k with pri := bits .and .i64 k.pri 1, busy := true } m 15 ov with ⟨k2, e2, m2⟩
        refine ⟨(m, k2, e2, m2), ⟨rfl, rfl, rfl, rfl, hok2, hx⟩, ?_⟩
        refine ⟨(m, k2, e2, m2), ⟨rfl, rfl, hok2, Nat.le_refl _, hx⟩, fun c2 h2 => ?_⟩
        refine c_ways tt_ok ctAE_ok k_l31_AltExecs rfl rfl ?_
        repeat' (first | exact trivial | (refine ⟨m2.l, fun _ => ⟨seg_all m2, rfl⟩, ?_⟩) | (refine ⟨m2, ⟨rfl, rfl, rfl, rfl⟩, ?_⟩) | (refine And.intro ?_ ?_) | (intro h; simp at h; done) | (refine fun _ => ?_))
        all_goals
          refine e_run tt_ok ctAE_ok k_l31_AltExecs [] 60 (by kernel_rfl) ?_
          refine ⟨fun h => ?_, fun _ => ?_⟩
          · exfalso; simp at h
          · refine e_again 2 (by decide) (by decide) (into [0, 1, 2, 3, 4] ⟨⟨_, rfl, rfl⟩, ⟨_, rfl, rfl⟩, ⟨_, rfl, rfl⟩, ⟨_, rfl, rfl⟩, ⟨_, rfl, rfl⟩, ⟨_, rfl, rfl⟩, ⟨_, rfl, rfl⟩, trivial⟩ ⟨_, rfl, rfl⟩ rfl rfl rfl rfl)
    · dsimp only
      refine c_run' tt_ok ctAE_ok k_l31_AltExecs [] 60 (by kernel_rfl) (by kernel_rfl) ?_
      refine ⟨fun h => absurd h (by decide), fun _ => ?_⟩
      refine ⟨fun _ => trivial, ?_⟩
      exact fin_k tt_ok (rs := rs_l31_AltExecs) rfl rfl hK [0] rfl rfl rfl rfl rfl rfl
end Go.Proofs

namespace Go.Proofs
open Go Go.Sx
set_option maxRecDepth 10000
/-- An address of a word of a memory of 1024 bytes. -/
def inA (a : Int) : Prop := a % 4 = 0 ∧ -2147483648 ≤ a ∧ a < -2147482624
theorem inA_bad {m : Ram} {a : Int} (hl : m.l.length = 1024) (ha : inA a) : wBad m a = false := by
  unfold inA at ha
  unfold wBad spanBad ofAt wAt
  rw [hl, show decide (a - a % 4 + 2147483648 ≥ ((1024 : Nat) : Int)) = false by simp; omega]
  simp; omega
theorem inA_i32 {a : Int} (ha : inA a) : I32 a := by unfold inA at ha; unfold I32; omega
theorem word_set {m : Ram} {a b v : Int} (hl : m.l.length = 1024) (ha : inA a) (hb : inA b) (hv : I32 v) : (m.set a v).word b = if a = b then v else m.word b := by
  have h1 := inA_bad hl ha
  have h2 := inA_bad hl hb
  have hA := wBad_nat h1
  have hB := wBad_nat h2
  unfold Ram.word
  rw [set_wBad, h2, set_ok h1]
  simp only [cond_false]
  split
  · rename_i e; subst e; exact getW_setW hA hv
  · rename_i hne
    unfold inA at ha hb
    unfold ofAt wAt at *
    unfold getW setW
    rw [stW_get hA 4 (by decide), stW_get hA 4 (by decide), stW_get hA 4 (by decide), stW_get hA 4 (by decide)]
    rw [if_neg (by omega), if_neg (by omega), if_neg (by omega), if_neg (by omega)]
structure Grd where
  t : Bool
  c : Bool
  w : Int
def Grd.vs : Grd → List Value
  | ⟨t, c, w⟩ => [.bool t, .bool c, .int .u8 w]
def Grd.k (g : Grd) : Int := IntKind.i32.wrap (g.w.tmod 8)
/-- Is a process waiting at channel k. -/
def tkB (tk k : Int) : Bool := bits .and .u8 (tk.fdiv (2 ^ min k.toNat IntKind.u8.bits)) 1 == 1
def chA (k : Int) : Int := IntKind.i32.wrap (-2147483448 + IntKind.i32.wrap (4 * k))
def prA (k : Int) : Int := IntKind.i32.wrap (-2147483136 + IntKind.i32.wrap (64 * k))
def chW (tk : Int) (e : Int → Bool) (k : Int) : Int := bif tkB tk k then prA k else bif e k then -2147483519 else -2147483648
theorem chA_eq {k : Int} (h0 : 0 ≤ k) (h8 : k < 8) : chA k = -2147483448 + 4 * k := by unfold chA; rw [IntKind.wrap_i32, IntKind.wrap_i32]; omega
theorem prA_eq {k : Int} (h0 : 0 ≤ k) (h8 : k < 8) : prA k = -2147483136 + 64 * k := by unfold prA; rw [IntKind.wrap_i32, IntKind.wrap_i32]; omega
theorem chA_in {k : Int} (h0 : 0 ≤ k) (h8 : k < 8) : inA (chA k) := by rw [chA_eq h0 h8]; unfold inA; omega
theorem chW_i32 (tk : Int) (e : Int → Bool) {k : Int} (h0 : 0 ≤ k) (h8 : k < 8) : I32 (chW tk e k) := by
  unfold chW; rw [prA_eq h0 h8]
  cases tkB tk k
  · cases e k
    · simp only [cond_false]; exact i32B_ok (by decide)
    · simp only [cond_false, cond_true]; exact i32B_ok (by decide)
  · simp only [cond_true]; unfold I32; omega
theorem sA_in : inA (-2147483532) := by unfold inA; decide
theorem wA_in : inA (-2147483520) := by unfold inA; decide
theorem iA_in : inA (-2147483524) := by unfold inA; decide
theorem Grd.k_range {g : Grd} (h : 0 ≤ g.w ∧ g.w < 256) : 0 ≤ g.k ∧ g.k < 8 := by
  unfold Grd.k; rw [Int.tmod_eq_emod_of_nonneg h.1, IntKind.wrap_i32]; omega
/-- Is a guard ready. -/
def Grd.rdy (tk : Int) (g : Grd) : Bool := bif g.t then (bif g.c then tkB tk g.k else true) else false
/-- Has a guard the channel enabled. -/
def Grd.en (tk : Int) (k : Int) (g : Grd) : Bool := bif g.t then (bif g.c then (bif tkB tk g.k then false else k == g.k) else false) else false
def anyP (tk : Int) (l : List Grd) (i : Nat) : Bool := (l.take i).any (·.rdy tk)
def enP (tk : Int) (l : List Grd) (i : Nat) (k : Int) : Bool := (l.take i).any (·.en tk k)
theorem take_succ {α : Type} {l : List α} {i : Nat} {g : α} (h : l[i]? = some g) : l.take (i + 1) = l.take i ++ [g] := by
  rw [List.take_add_one, h]; rfl
theorem anyP_succ {tk : Int} {l : List Grd} {i : Nat} {g : Grd} (h : l[i]? = some g) : anyP tk l (i + 1) = (anyP tk l i || g.rdy tk) := by
  unfold anyP; rw [take_succ h, List.any_append]; simp
theorem enP_succ {tk : Int} {l : List Grd} {i : Nat} {g : Grd} (h : l[i]? = some g) (k : Int) : enP tk l (i + 1) k = (enP tk l i k || g.en tk k) := by
  unfold enP; rw [take_succ h, List.any_append]; simp
/-- What is known while guards are enabled. -/
structure InvE (tk : Int) (l : List Grd) (i : Nat) (m : Ram) : Prop where
  len : m.l.length = 1024
  ch : ∀ k, 0 ≤ k → k < 8 → m.word (chA k) = chW tk (enP tk l i) k
  st : m.word (-2147483532) = bif anyP tk l i then -2147483645 else -2147483647
theorem err0 {m : Ram} {a : Int} (h : wBad m a = false) : m.err a = 0 := by simp [Ram.err, h]
theorem goR {k : Core} (m : Ram) {fn o : Int} (h1 : (k.pri.fdiv 2 != 0) = false) (h2 : mineB fn o = true) (h3 : k.busy = true) (h4 : linkedB k o = false) : execR k m fn o = finR (opM k m o) := by
  simp [execR, h1, h2, h3, h4]
def rdA (a b c : Int) : Core := ⟨a, b, c, -2147483048, -2147483520, 1, true, false, false, false, 0, 0, 0, 0, 0, 0, 0, 0, 0, 0, false, 0, 0, 0, 0, 0, false, 0⟩
theorem rdA_abc (a b c : Int) : rdK.abc a b c = rdA a b c := rfl
theorem rd_goR (m : Ram) (a b c o : Int) (h2 : mineB 15 o = true) (h4 : linkedB (rdA a b c) o = false) : execR (rdA a b c) m 15 o = finR (opM (rdA a b c) m o) := goR m (show ((1 : Int).fdiv 2 != 0) = false by decide) h2 rfl h4
theorem st_ok (k : Core) {m : Ram} {a : Int} (v : Int) (h : wBad m a = false) : stR k m a v = (k, 0, m.set a v) := by simp [stR, h]
theorem en_step {tk : Int} {l : List Grd} {i : Nat} {m : Ram} {g : Grd} (hI : InvE tk l i m) (hg : l[i]? = some g) (hw : 0 ≤ g.w ∧ g.w < 256) :
    ∃ m', execR (rdA (bif g.t then -5 else 0) (bif g.c then chA g.k else 88) 77) m 15 (bif g.c then 72 else 73) = (rdA (bif g.t then -5 else 0) (bif g.c then 77 else 88) 77, 0, m') ∧ InvE tk l (i + 1) m' := by
  obtain ⟨hlen, hch, hst⟩ := hI
  have hk := Grd.k_range hw
  have hbs := inA_bad hlen sA_in
  have hbc := inA_bad hlen (chA_in hk.1 hk.2)
  have ha := anyP_succ (tk := tk) hg
  have he := enP_succ (tk := tk) hg
  have hready : (m.set (-2147483532) (-2147483645)).l.length = 1024 := by rw [set_len]; exact hlen
  have chS : ∀ v, I32 v → ∀ k, 0 ≤ k → k < 8 → (m.set (-2147483532) v).word (chA k) = m.word (chA k) := fun v hv k h0 h8 => by
    rw [word_set hlen sA_in (chA_in h0 h8) hv, if_neg (by rw [chA_eq h0 h8]; omega)]
  obtain ⟨t, c, w⟩ := g
  cases t with
  | false =>
    have hr : (Grd.rdy tk ⟨false, c, w⟩) = false := rfl
    have hn : ∀ k, (Grd.en tk k ⟨false, c, w⟩) = false := fun k => rfl
    refine ⟨m, ?_, hlen, fun k h0 h8 => ?_, ?_⟩
    · cases c with
      | false => exact (exec_false (rdA 0 88 77) m (by decide) rfl).1 rfl
      | true => exact (exec_false (rdA 0 (chA (Grd.k ⟨false, true, w⟩)) 77) m (by simp [rdA]) rfl).2.1 rfl
    · rw [hch k h0 h8]
      unfold chW
      rw [he k, hn k, Bool.or_false]
    · rw [hst, ha, hr, Bool.or_false]
  | true =>
    cases c with
    | false =>
      have hr : (Grd.rdy tk ⟨true, false, w⟩) = true := rfl
      have hn : ∀ k, (Grd.en tk k ⟨true, false, w⟩) = false := fun k => rfl
      refine ⟨m.set (-2147483532) (-2147483645), ?_, hready, fun k h0 h8 => ?_, ?_⟩
      · rw [show (bif (Grd.mk true false w).t then (-5 : Int) else 0) = -5 from rfl, show (bif (Grd.mk true false w).c then (72 : Int) else 73) = 73 from rfl]
        rw [rd_goR m _ _ _ _ (by decide) (by unfold linkedB; simp)]
        rw [show opM (rdA (-5) (bif (Grd.mk true false w).c then chA (Grd.mk true false w).k else 88) 77) m 73 = Mach.enbs ⟨rdA (-5) 88 77, 0, m⟩ from rfl, ex_enbs]
        rw [show ((rdA (-5) 88 77).a != 0) = true by decide, cond_true]
        exact st_ok (rdA (-5) 88 77) _ hbs
      · rw [chS _ (i32B_ok (by decide)) k h0 h8, hch k h0 h8]
        unfold chW
        rw [he k, hn k, Bool.or_false]
      · rw [word_set hlen sA_in sA_in (i32B_ok (by decide)), if_pos rfl, ha, hr, Bool.or_true]; rfl
    | true =>
      have hr : (Grd.rdy tk ⟨true, true, w⟩) = tkB tk (Grd.k ⟨true, true, w⟩) := rfl
      have hn : ∀ k, (Grd.en tk k ⟨true, true, w⟩) = (bif tkB tk (Grd.k ⟨true, true, w⟩) then false else k == Grd.k ⟨true, true, w⟩) := fun k => rfl
      generalize hkk : Grd.k ⟨true, true, w⟩ = kk at *
      have hlk : linkedB (rdA (-5) (chA kk) 77) 72 = false := by
        have h3 : decide (chA kk < -2147483616) = false := by rw [chA_eq hk.1 hk.2]; simp; omega
        show (bif bif bif (72 : Int) == 72 then (-5 : Int) != 0 else false then decide (chA kk < -2147483616) else false then true else _) = false
        rw [h3]; rfl
      have hgo : execR (rdA (-5) (chA kk) 77) m 15 72 = enR (rdA (-5) (chA kk) 77) m := by
        rw [rd_goR m _ _ _ _ (by decide) hlk, show opM (rdA (-5) (chA kk) 77) m 72 = Mach.enbc ⟨rdA (-5) (chA kk) 77, 0, m⟩ from rfl, ex_enbc]
        rw [show ((rdA (-5) (chA kk) 77).a != 0) = true by simp [rdA], cond_true]
      have hen : enR (rdA (-5) (chA kk) 77) m = bif m.word (chA kk) == -2147483648 then (rdA (-5) 77 77, 0, m.set (chA kk) (-2147483519))
          else bif m.word (chA kk) == -2147483519 then (rdA (-5) 77 77, 0, m) else (rdA (-5) 77 77, 0, m.set (-2147483532) (-2147483645)) := by
        have e1 : ownAt (rdA (-5) (chA kk) 77).wptr (rdA (-5) (chA kk) 77).pri = -2147483519 := by show ownAt (-2147483520) 1 = _; decide
        have e2 : stAt (rdA (-5) (chA kk) 77).wptr = -2147483532 := by show stAt (-2147483520) = _; decide
        unfold enR
        rw [show (rdA (-5) (chA kk) 77).b = chA kk from rfl, hbc, e1, e2, st_ok _ _ hbc, st_ok _ _ hbs]
        rfl
      have hcw := hch kk hk.1 hk.2
      show ∃ m', execR (rdA (-5) (chA kk) 77) m 15 72 = (rdA (-5) 77 77, 0, m') ∧ _
      rw [hgo, hen, hcw]
      unfold chW
      cases htk : tkB tk kk with
      | true =>
        have hp : (prA kk == -2147483648) = false := by rw [prA_eq hk.1 hk.2]; simp; omega
        have hp2 : (prA kk == -2147483519) = false := by rw [prA_eq hk.1 hk.2]; simp; omega
        simp only [cond_true, hp, hp2, cond_false]
        refine ⟨_, rfl, hready, fun k h0 h8 => ?_, ?_⟩
        · rw [chS _ (i32B_ok (by decide)) k h0 h8, hch k h0 h8]
          unfold chW
          rw [he k, hn k, htk, cond_true, Bool.or_false]
        · rw [word_set hlen sA_in sA_in (i32B_ok (by decide)), if_pos rfl, ha, hr, htk, Bool.or_true]; rfl
      | false =>
        cases hek : enP tk l i kk with
        | true =>
          simp only [cond_true, cond_false, show ((-2147483519 : Int) == -2147483648) = false by decide, show ((-2147483519 : Int) == -2147483519) = true by decide]
          refine ⟨_, rfl, hlen, fun k h0 h8 => ?_, ?_⟩
          · rw [hch k h0 h8]
            unfold chW
            rw [he k, hn k, htk, cond_false]
            cases hkq : k == kk with
            | false => rw [Bool.or_false]
            | true =>
              have : k = kk := by simpa using hkq
              subst this
              rw [hek]; rfl
          · rw [hst, ha, hr, htk, Bool.or_false]
        | false =>
          simp only [cond_false, show ((-2147483648 : Int) == -2147483648) = true by decide, cond_true]
          refine ⟨_, rfl, by rw [set_len]; exact hlen, fun k h0 h8 => ?_, ?_⟩
          · rw [word_set hlen (chA_in hk.1 hk.2) (chA_in h0 h8) (i32B_ok (by decide))]
            unfold chW
            rw [he k, hn k, htk, cond_false]
            by_cases hkq : k = kk
            · subst hkq
              rw [if_pos rfl, htk, show (k == k) = true by simp, Bool.or_true]; rfl
            · rw [if_neg (by rw [chA_eq h0 h8, chA_eq hk.1 hk.2]; omega), hch k h0 h8, show (k == kk) = false by simpa using hkq, Bool.or_false]; rfl
          · rw [word_set hlen (chA_in hk.1 hk.2) sA_in (i32B_ok (by decide)), if_neg (by rw [chA_eq hk.1 hk.2]; omega), hst, ha, hr, htk, Bool.or_false]
end Go.Proofs

namespace Go.Proofs
open Go Go.Sx
set_option maxRecDepth 10000
theorem wait_any {tk : Int} {l : List Grd} {i : Nat} {m : Ram} (hI : InvE tk l i m) (ha : anyP tk l i = true) : execR (rdA 0 0 0) m 15 68 = (rdA 0 0 0, 0, m.set (-2147483520) (-1)) := by
  have hbs := inA_bad hI.len sA_in
  have hbw := inA_bad hI.len wA_in
  rw [rd_goR m _ _ _ _ (by decide) (by decide), show opM (rdA 0 0 0) m 68 = Mach.altwt ⟨rdA 0 0 0, 0, m⟩ from rfl, ex_altwt _ _ (show I32 (-2147483520) from i32B_ok (by decide))]
  have e2 : stAt (rdA 0 0 0).wptr = -2147483532 := by show stAt (-2147483520) = _; decide
  have hs := hI.st
  rw [ha] at hs
  unfold wtR
  rw [e2, err0 hbs, show (rdA 0 0 0).wptr = -2147483520 from rfl, err0 hbw, hs]
  rfl
theorem wait_none {tk : Int} {l : List Grd} {i : Nat} {m : Ram} (hI : InvE tk l i m) (ha : anyP tk l i = false) : ∃ m', execR (rdA 0 0 0) m 15 68 = ((rdA 0 0 0).nobody, 0, m') ∧
    m'.word (-2147483520) = -1 ∧ m'.word (-2147483532) = -2147483646 ∧ m'.word (-2147483524) = -2147483048 := by
  have hbs := inA_bad hI.len sA_in
  have hbw := inA_bad hI.len wA_in
  rw [rd_goR m _ _ _ _ (by decide) (by decide), show opM (rdA 0 0 0) m 68 = Mach.altwt ⟨rdA 0 0 0, 0, m⟩ from rfl, ex_altwt _ _ (show I32 (-2147483520) from i32B_ok (by decide))]
  have e2 : stAt (rdA 0 0 0).wptr = -2147483532 := by show stAt (-2147483520) = _; decide
  have hs := hI.st
  rw [ha] at hs
  have hl1 : (m.set (-2147483520) (-1)).l.length = 1024 := by rw [set_len]; exact hI.len
  have hl2 : ((m.set (-2147483520) (-1)).set (-2147483532) (-2147483646)).l.length = 1024 := by rw [set_len]; exact hl1
  have hwt : wtM (rdA 0 0 0) m = (m.set (-2147483520) (-1)).set (-2147483532) (-2147483646) := by unfold wtM; rw [e2]; rfl
  have hv : validB ((m.set (-2147483520) (-1)).set (-2147483532) (-2147483646)) (-2147483520) = true := by
    unfold validB ofAt; rw [hl2]; decide
  have hwa : waR (rdA 0 0 0) (wtM (rdA 0 0 0) m) = ((rdA 0 0 0).nobody, 0, ((m.set (-2147483520) (-1)).set (-2147483532) (-2147483646)).set (-2147483524) (-2147483048)) := by
    rw [hwt]
    unfold waR
    rw [show (rdA 0 0 0).wptr = -2147483520 from rfl, hv]
    rfl
  have i1 : I32 (-1) := i32B_ok (by decide)
  have i2 : I32 (-2147483646) := i32B_ok (by decide)
  have i3 : I32 (-2147483048) := i32B_ok (by decide)
  refine ⟨((m.set (-2147483520) (-1)).set (-2147483532) (-2147483646)).set (-2147483524) (-2147483048), ?_, ?_, ?_, ?_⟩
  · unfold wtR
    rw [e2, err0 hbs, show (rdA 0 0 0).wptr = -2147483520 from rfl, err0 hbw, hs, hwa]
    rfl
  · rw [word_set hl2 iA_in wA_in i3, if_neg (by decide), word_set hl1 sA_in wA_in i2, if_neg (by decide), word_set hI.len wA_in wA_in i1, if_pos rfl]
  · rw [word_set hl2 iA_in sA_in i3, if_neg (by decide), word_set hl1 sA_in sA_in i2, if_pos rfl]
  · rw [word_set hl2 iA_in iA_in i3, if_pos rfl]
/-- Which channels are still enabled. -/
def leftP (tk : Int) (l : List Grd) (i : Nat) (k : Int) : Bool := enP tk l l.length k && !enP tk l i k
/-- What is known while guards are disabled. -/
structure InvD (tk : Int) (l : List Grd) (i : Nat) (m : Ram) : Prop where
  len : m.l.length = 1024
  ch : ∀ k, 0 ≤ k → k < 8 → m.word (chA k) = chW tk (leftP tk l i) k
  w0 : anyP tk l i = false → m.word (-2147483520) = -1
  w1 : anyP tk l i = true → 10 ≤ m.word (-2147483520) ∧ m.word (-2147483520) ≤ 29
theorem dis_init {tk : Int} {l : List Grd} {m : Ram} (hI : InvE tk l l.length m) : InvD tk l 0 (m.set (-2147483520) (-1)) := by
  have i1 : I32 (-1) := i32B_ok (by decide)
  refine ⟨by rw [set_len]; exact hI.len, fun k h0 h8 => ?_, fun _ => ?_, fun h => ?_⟩
  · rw [word_set hI.len wA_in (chA_in h0 h8) i1, if_neg (by rw [chA_eq h0 h8]; omega), hI.ch k h0 h8]
    unfold chW leftP
    rw [show enP tk l 0 k = false from rfl, Bool.not_false, Bool.and_true]
  · rw [word_set hI.len wA_in wA_in i1, if_pos rfl]
  · rw [show anyP tk l 0 = false from rfl] at h; cases h
theorem dis_done {tk : Int} {l : List Grd} {m : Ram} (hI : InvD tk l l.length m) {k : Int} (h0 : 0 ≤ k) (h8 : k < 8) : m.word (chA k) = bif tkB tk k then prA k else -2147483648 := by
  rw [hI.ch k h0 h8]
  unfold chW leftP
  cases enP tk l l.length k <;> rfl
theorem ch_step {tk : Int} {l : List Grd} {i : Nat} {m : Ram} (hI : InvD tk l i m) : chR (rdA (10 + (i : Int)) 0 0) m = bif anyP tk l i then (rdA 0 0 0, 0, m) else (rdA 1 0 0, 0, m.set (-2147483520) (10 + (i : Int))) := by
  have hbw := inA_bad hI.len wA_in
  unfold chR
  rw [show (rdA (10 + (i : Int)) 0 0).wptr = -2147483520 from rfl, hbw]
  cases ha : anyP tk l i with
  | true =>
    have := hI.w1 ha
    have hne : (m.word (-2147483520) != -1) = true := by simp; omega
    rw [hne]; rfl
  | false =>
    rw [hI.w0 ha, st_ok _ _ hbw]
    rfl
theorem dis_step {tk : Int} {l : List Grd} {i : Nat} {m : Ram} {g : Grd} (hI : InvD tk l i m) (hg : l[i]? = some g) (hw : 0 ≤ g.w ∧ g.w < 256) (hi : i < 20) :
    ∃ m', execR (rdA (10 + (i : Int)) (bif g.t then 1 else 0) (bif g.c then chA g.k else 0)) m 15 (bif g.c then 47 else 48) = (rdA (bif g.rdy tk && !anyP tk l i then 1 else 0) 0 0, 0, m') ∧ InvD tk l (i + 1) m' ∧
      ((g.rdy tk && !anyP tk l i) = true → m'.word (-2147483520) = 10 + (i : Int)) := by
  have hk := Grd.k_range hw
  have hbw := inA_bad hI.len wA_in
  have hbc := inA_bad hI.len (chA_in hk.1 hk.2)
  have ha := anyP_succ (tk := tk) hg
  have he := enP_succ (tk := tk) hg
  have hi10 : I32 (10 + (i : Int)) := by unfold I32; omega
  have hcs := ch_step hI
  -- nothing changes
  have same : g.rdy tk = false → (∀ k, 0 ≤ k → k < 8 → leftP tk l (i + 1) k = leftP tk l i k) → InvD tk l (i + 1) m := fun hr hl => by
    rw [hr, Bool.or_false] at ha
    exact ⟨hI.len, fun k h0 h8 => by rw [hI.ch k h0 h8]; unfold chW; rw [hl k h0 h8], fun h => hI.w0 (ha ▸ h), fun h => hI.w1 (ha ▸ h)⟩
  -- a choice
  have choose : g.rdy tk = true → (∀ k, g.en tk k = false) → ∃ m', chR (rdA (10 + (i : Int)) 0 0) m = (rdA (bif g.rdy tk && !anyP tk l i then 1 else 0) 0 0, 0, m') ∧ InvD tk l (i + 1) m' ∧ ((g.rdy tk && !anyP tk l i) = true → m'.word (-2147483520) = 10 + (i : Int)) := fun hr hn => by
    have hl : ∀ k, leftP tk l (i + 1) k = leftP tk l i k := fun k => by unfold leftP; rw [he k, hn k, Bool.or_false]
    rw [hcs]
    rw [hr, Bool.or_true] at ha
    cases hA : anyP tk l i with
    | true =>
      refine ⟨m, by rw [hr]; rfl, ⟨hI.len, fun k h0 h8 => by rw [hI.ch k h0 h8]; unfold chW; rw [hl k], fun h => ?_, fun _ => hI.w1 hA⟩, fun h => by simp at h⟩
      rw [ha] at h; cases h
    | false =>
      refine ⟨m.set (-2147483520) (10 + (i : Int)), by rw [hr]; rfl, ⟨by rw [set_len]; exact hI.len, fun k h0 h8 => ?_, fun h => ?_, fun _ => ?_⟩, fun _ => ?_⟩
      · rw [word_set hI.len wA_in (chA_in h0 h8) hi10, if_neg (by rw [chA_eq h0 h8]; omega), hI.ch k h0 h8]; unfold chW; rw [hl k]
      · rw [ha] at h; cases h
      · rw [word_set hI.len wA_in wA_in hi10, if_pos rfl]; omega
      · rw [word_set hI.len wA_in wA_in hi10, if_pos rfl]
  obtain ⟨t, c, w⟩ := g
  cases t with
  | false =>
    have hr : (Grd.rdy tk ⟨false, c, w⟩) = false := rfl
    have hn : ∀ k, (Grd.en tk k ⟨false, c, w⟩) = false := fun k => rfl
    refine ⟨m, ?_, same hr (fun k _ _ => by unfold leftP; rw [he k, hn k, Bool.or_false]), fun h => by rw [hr] at h; cases h⟩
    rw [hr]
    cases c with
    | false => exact (exec_false (rdA (10 + (i : Int)) 0 0) m (by show ((1 : Int).fdiv 2 != 0) = false; decide) rfl).2.2.2 rfl
    | true => exact (exec_false (rdA (10 + (i : Int)) 0 (chA (Grd.k ⟨false, true, w⟩))) m (by show ((1 : Int).fdiv 2 != 0) = false; decide) rfl).2.2.1 rfl
  | true =>
    cases c with
    | false =>
      have h1 : execR (rdA (10 + (i : Int)) 1 0) m 15 48 = chR (rdA (10 + (i : Int)) 0 0) m := by
        rw [rd_goR m _ _ _ _ (by decide) (by unfold linkedB; simp), show opM (rdA (10 + (i : Int)) 1 0) m 48 = Mach.diss ⟨rdA (10 + (i : Int)) 1 0, 0, m⟩ from rfl, ex_diss]
        rfl
      show ∃ m', execR (rdA (10 + (i : Int)) 1 0) m 15 48 = _ ∧ _
      rw [h1]
      exact choose rfl (fun k => rfl)
    | true =>
      have hr : (Grd.rdy tk ⟨true, true, w⟩) = tkB tk (Grd.k ⟨true, true, w⟩) := rfl
      have hn : ∀ k, (Grd.en tk k ⟨true, true, w⟩) = (bif tkB tk (Grd.k ⟨true, true, w⟩) then false else k == Grd.k ⟨true, true, w⟩) := fun k => rfl
      show ∃ m', execR (rdA (10 + (i : Int)) 1 (chA (Grd.k ⟨true, true, w⟩))) m 15 47 = _ ∧ _
      generalize hkk : Grd.k ⟨true, true, w⟩ = kk at *
      have hlk : linkedB (rdA (10 + (i : Int)) 1 (chA kk)) 47 = false := by
        have h3 : decide (chA kk < -2147483616) = false := by rw [chA_eq hk.1 hk.2]; simp; omega
        show (bif _ then true else bif bif (47 : Int) == 47 then (1 : Int) != 0 else false then decide (chA kk < -2147483616) else false) = false
        rw [h3]; rfl
      have h1 : execR (rdA (10 + (i : Int)) 1 (chA kk)) m 15 47 = disR (rdA (10 + (i : Int)) 0 0) m (chA kk) := by
        rw [rd_goR m _ _ _ _ (by decide) hlk, show opM (rdA (10 + (i : Int)) 1 (chA kk)) m 47 = Mach.disc ⟨rdA (10 + (i : Int)) 1 (chA kk), 0, m⟩ from rfl, ex_disc]
        rfl
      have hcw := hI.ch kk hk.1 hk.2
      have e1 : ownAt (rdA (10 + (i : Int)) 0 0).wptr (rdA (10 + (i : Int)) 0 0).pri = -2147483519 := by show ownAt (-2147483520) 1 = _; decide
      rw [h1]
      unfold disR
      rw [hbc, e1, hcw, st_ok _ _ hbc]
      unfold chW
      cases htk : tkB tk kk with
      | true =>
        have hp : (prA kk != -2147483648) = true := by rw [prA_eq hk.1 hk.2]; simp; omega
        have hp2 : (prA kk != -2147483519) = true := by rw [prA_eq hk.1 hk.2]; simp; omega
        simp only [cond_true, cond_false, hp, hp2]
        exact choose (by rw [hr, htk]) (fun k => by rw [hn k, htk]; rfl)
      | false =>
        have hrf : (Grd.rdy tk ⟨true, true, w⟩) = false := by rw [hr, htk]
        rw [hrf]
        cases hek : leftP tk l i kk with
        | true =>
          refine ⟨m.set (chA kk) (-2147483648), rfl, ⟨by rw [set_len]; exact hI.len, fun k h0 h8 => ?_, fun h => ?_, fun h => ?_⟩, fun h => by cases h⟩
          · rw [word_set hI.len (chA_in hk.1 hk.2) (chA_in h0 h8) (i32B_ok (by decide))]
            unfold chW leftP
            rw [he k, hn k, htk, cond_false]
            by_cases hkq : k = kk
            · subst hkq
              rw [if_pos rfl, htk, show (k == k) = true by simp, Bool.or_true, Bool.not_true, Bool.and_false]; rfl
            · rw [if_neg (by rw [chA_eq h0 h8, chA_eq hk.1 hk.2]; omega), hI.ch k h0 h8, show (k == kk) = false by simpa using hkq, Bool.or_false]; rfl
          · rw [word_set hI.len (chA_in hk.1 hk.2) wA_in (i32B_ok (by decide)), if_neg (by rw [chA_eq hk.1 hk.2]; omega)]
            exact hI.w0 (by rw [ha, hrf, Bool.or_false] at h; exact h)
          · rw [word_set hI.len (chA_in hk.1 hk.2) wA_in (i32B_ok (by decide)), if_neg (by rw [chA_eq hk.1 hk.2]; omega)]
            exact hI.w1 (by rw [ha, hrf, Bool.or_false] at h; exact h)
        | false =>
          refine ⟨m, rfl, same hrf (fun k h0 h8 => ?_), fun h => by cases h⟩
          unfold leftP at *
          rw [he k, hn k, htk, cond_false]
          cases hkq : k == kk with
          | false => rw [Bool.or_false]
          | true =>
            have : k = kk := by simpa using hkq
            subst this
            rw [hek, Bool.or_true, Bool.not_true, Bool.and_false]
def rdI (x : Int) : Core := { rdA 0 0 0 with iptr := x }
theorem end_step {m : Ram} (hl : m.l.length = 1024) : execR (rdA 0 0 0) m 15 69 = (rdI (IntKind.i32.wrap (-2147483048 + m.word (-2147483520))), 0, m) := by
  have hbw := inA_bad hl wA_in
  rw [rd_goR m _ _ _ _ (by decide) (by decide), show opM (rdA 0 0 0) m 69 = Mach.altend ⟨rdA 0 0 0, 0, m⟩ from rfl, ex_altend]
  rw [show (rdA 0 0 0).wptr = -2147483520 from rfl, hbw]
  rfl
end Go.Proofs

namespace Go.Proofs
open Go Go.Sx
set_option maxRecDepth 10000
def grdV (l : List Grd) : List Value := (l.map Grd.vs).flatten
theorem grd_row {l : List Grd} {i : Nat} {g : Grd} (h : l[i]? = some g) : seg (grdV l) (0 + i * 3) 3 = Grd.vs g := by
  rw [Nat.zero_add]
  induction l generalizing i with
  | nil => simp at h
  | cons x l ih =>
    have hx : (Grd.vs x).length = 3 := rfl
    cases i with
    | zero =>
      simp at h; subst h
      show ((grdV (x :: l)).drop 0).take 3 = _
      rw [List.drop_zero]
      show (Grd.vs x ++ grdV l).take 3 = _
      rw [← hx, List.take_left]
    | succ i =>
      rw [← ih (by simpa using h)]
      show ((Grd.vs x ++ grdV l).drop ((i + 1) * 3)).take 3 = ((grdV l).drop (i * 3)).take 3
      rw [show (i + 1) * 3 = (Grd.vs x).length + i * 3 by rw [hx]; omega, ← List.drop_drop, List.drop_left]
theorem grdV_length (l : List Grd) : (grdV l).length = 3 * l.length := by
  induction l with
  | nil => rfl
  | cons x l ih =>
    show (Grd.vs x ++ grdV l).length = _
    rw [List.length_append, ih, show (Grd.vs x).length = 3 from rfl, List.length_cons]; omega
noncomputable abbrev ctEn : CT := [(f_mem_Mem_SetWord, eSetWordT), (f_l31_exec, eExecL)]
theorem ctEn_ok : CTok Try.prog ctEn := ⟨con_ok cal_mem_Mem_SetWord _, con_ok cal_l31_exec _, trivial⟩
theorem enabled_c (l : List Grd) (cap : Nat) (tk : Int) (m0 : Ram) (h0 : m0.l.length = 1024) (hl : ∀ g ∈ l, 0 ≤ g.w ∧ g.w < 256) (hn : l.length ≤ 20) :
    Con Try.prog f_l31_enabled [.agg rdK.sv, .s (.loc 0 0), .s (.sl 1 0 l.length cap), .s (.int .u8 tk)] [mBox2 m0.l.length, .view (grdV l), mOwn m0.l]
    (.all Ram (fun m => InvE tk l l.length m) fun m => .ret (.tup [.s (.bool true), .s (.bool (anyP tk l l.length))]) [mBox2 m.l.length, .view (grdV l), mOwn m.l]) := by
  intro K hK
  refine enter fn_l31_enabled rfl nt_l31_enabled rfl rfl (fun φ w0 β0 F => ?_)
  refine c_run tt_ok ctEn_ok k_l31_enabled [] 60 (by kernel_rfl) ?_
  show WpC _ _ _ _ _
  refine c_loop (α := Nat × Ram) (fun x => x.1 ≤ 8 ∧ x.2.l.length = 1024 ∧ ∀ k : Int, 0 ≤ k → k < x.1 → x.2.word (chA k) = chW tk (fun _ => false) k) (fun x => 8 - x.1)
    (fun x => [(1, .t (.s (.loc 0 0)), none), (2, .t (.s (.sl 1 0 l.length cap)), none), (3, .t (.s (.int .u8 tk)), none), (4, .t (.s (.loc 3 0)), none), (10, .t (.s (.int .i32 (x.1 : Int))), none)])
    (fun x => [mBox2 x.2.l.length, .view (grdV l), mOwn x.2.l, .blk 32 rdK.sv]) (0, m0) ⟨Nat.zero_le _, h0, fun k h1 h2 => by simp at h2; omega⟩ ?_ ?_
  · exact into [0, 1, 2, 3] ⟨⟨_, rfl, rfl⟩, ⟨_, rfl, rfl⟩, ⟨_, rfl, rfl⟩, ⟨_, rfl, rfl⟩, ⟨_, rfl, rfl⟩, trivial⟩ ⟨_, rfl, rfl⟩ rfl rfl rfl rfl
  · rintro ⟨i, m⟩ ⟨hi, hlen, hch⟩
    simp only at hi hlen hch
    dsimp only
    refine c_run' tt_ok ctEn_ok k_l31_enabled [] 60 (by kernel_rfl) (by kernel_rfl) ?_
    refine ⟨fun h4 => ?_, fun h4 => ?_⟩
    · have h4' : (i : Int) < 8 := of_decide_eq_true h4
      have next : ∀ v : Int, v = chW tk (fun _ => false) (i : Int) → (i + 1 ≤ 8 ∧ (m.set (chA (i : Int)) v).l.length = 1024 ∧ ∀ k : Int, 0 ≤ k → k < ((i + 1 : Nat) : Int) → (m.set (chA (i : Int)) v).word (chA k) = chW tk (fun _ => false) k) := by
        rintro v rfl
        refine ⟨by omega, by rw [set_len]; exact hlen, fun k k0 k1 => ?_⟩
        rw [word_set hlen (chA_in (by omega) h4') (chA_in k0 (by omega)) (chW_i32 _ _ (by omega) h4')]
        by_cases hk : k = (i : Int)
        · subst hk; rw [if_pos rfl]
        · rw [if_neg (by rw [chA_eq k0 (by omega), chA_eq (by omega) h4']; omega)]
          exact hch k k0 (by omega)
      have hw : IntKind.i32.wrap ((i : Int) + 1) = ((i + 1 : Nat) : Int) := by rw [IntKind.wrap_i32]; omega
      refine ⟨by show (0 : Int) ≤ (i : Int); omega, fun h5 => ?_, fun h5 => ?_⟩
      · refine ⟨m, ⟨rfl, rfl, rfl, rfl, I32_wrap _⟩, ?_⟩
        refine e_again (i + 1, m.set (chA (i : Int)) (prA (i : Int))) (next _ (by unfold chW; rw [show tkB tk (i : Int) = true from h5]; rfl)) (by simp; omega) (into [0, 1, 2, 3] ⟨⟨_, rfl, rfl⟩, ⟨_, rfl, rfl⟩, ⟨_, rfl, rfl⟩, ⟨_, rfl, rfl⟩, ⟨_, rfl, fvi hw⟩, trivial⟩ ⟨_, rfl, rfl⟩ rfl rfl rfl rfl)
      · refine ⟨m, ⟨rfl, rfl, rfl, rfl, I32_wrap _⟩, ?_⟩
        refine e_again (i + 1, m.set (chA (i : Int)) (-2147483648)) (next _ (by unfold chW; rw [show tkB tk (i : Int) = false from h5]; rfl)) (by simp; omega) (into [0, 1, 2, 3] ⟨⟨_, rfl, rfl⟩, ⟨_, rfl, rfl⟩, ⟨_, rfl, rfl⟩, ⟨_, rfl, rfl⟩, ⟨_, rfl, fvi hw⟩, trivial⟩ ⟨_, rfl, rfl⟩ rfl rfl rfl rfl)
    · have h4' : ¬ (i : Int) < 8 := of_decide_eq_false h4
      have hi8 : i = 8 := by omega
      subst hi8
      have hbs := inA_bad hlen sA_in
      have hx : execR (rdA 0 0 0) m 15 67 = (rdA 0 0 0, 0, m.set (-2147483532) (-2147483647)) := by
        rw [rd_goR m _ _ _ _ (by decide) (by decide), show opM (rdA 0 0 0) m 67 = Mach.alt ⟨rdA 0 0 0, 0, m⟩ from rfl, ex_alt]
        exact st_ok (rdA 0 0 0) _ hbs
      refine ⟨(m, rdA 0 0 0, 0, m.set (-2147483532) (-2147483647)), ⟨rfl, rfl, rfl, rfl, ⟨rdK_ok, i32B_ok (by decide), i32B_ok (by decide), i32B_ok (by decide)⟩, hx⟩, ?_⟩
      have hI0 : InvE tk l 0 (m.set (-2147483532) (-2147483647)) := ⟨by rw [set_len]; exact hlen, fun k k0 k8 => by
          rw [word_set hlen sA_in (chA_in k0 k8) (i32B_ok (by decide)), if_neg (by rw [chA_eq k0 k8]; omega), hch k k0 (by omega)]; rfl,
        by rw [word_set hlen sA_in sA_in (i32B_ok (by decide)), if_pos rfl]; rfl⟩
      show WpC _ _ _ _ _
      refine c_loop (α := Nat × Ram) (fun x => x.1 ≤ l.length ∧ InvE tk l x.1 x.2) (fun x => l.length - x.1)
        (fun x => [(1, .t (.s (.loc 0 0)), none), (3, .t (.s (.int .u8 tk)), none), (4, .t (.s (.loc 3 0)), none), (14, .t (.s (.bool true)), none), (15, .t (.s (.bool (anyP tk l x.1))), none), (50, .t (.s (.sl 1 0 l.length cap)), none), (51, .t (.s (.int .i64 (l.length : Int))), none), (52, .t (.s (.int .i64 (x.1 : Int))), none)])
        (fun x => [mBox2 x.2.l.length, .view (grdV l), mOwn x.2.l, .blk 32 rdK.sv]) (0, m.set (-2147483532) (-2147483647)) ⟨Nat.zero_le _, hI0⟩ ?_ ?_
      · exact into [0, 1, 2, 3] ⟨⟨_, rfl, rfl⟩, ⟨_, rfl, rfl⟩, ⟨_, rfl, rfl⟩, ⟨_, rfl, rfl⟩, ⟨_, rfl, rfl⟩, ⟨_, rfl, rfl⟩, ⟨_, rfl, rfl⟩, ⟨_, rfl, rfl⟩, trivial⟩ ⟨_, rfl, rfl⟩ rfl rfl rfl rfl
      · rintro ⟨j, q⟩ ⟨hj, hI⟩
        simp only at hj hI
        dsimp only
        refine c_run' tt_ok ctEn_ok k_l31_enabled [] 60 (by kernel_rfl) (by kernel_rfl) ?_
        refine ⟨fun h6 => ?_, fun h6 => ?_⟩
        · have h6' : (j : Int) < l.length := of_decide_eq_true h6
          have hjl : j < l.length := by omega
          obtain ⟨g, hg⟩ : ∃ g, l[j]? = some g := ⟨l[j], List.getElem?_eq_getElem hjl⟩
          have hgw := hl g (List.mem_of_getElem? hg)
          obtain ⟨q', hx, hI'⟩ := en_step hI hg hgw
          have hrow := grd_row hg
          have hany := anyP_succ (tk := tk) hg
          have hk := Grd.k_range hgw
          have hch32 := inA_i32 (chA_in hk.1 hk.2)
          have hw : IntKind.i64.wrap ((j : Int) + 1) = ((j + 1 : Nat) : Int) := by rw [IntKind.wrap_i64]; omega
          obtain ⟨t, c, w⟩ := g
          refine ⟨j, ⟨rfl, hjl, by show 0 + (j + 1) * (2 + 1) ≤ (grdV l).length; rw [grdV_length]; omega⟩, [.bool t, .bool c, .int .u8 w], rfl, ⟨Nat.le_refl 3, hrow⟩, ?_⟩
          cases t <;> cases c
          · refine ⟨fun h => (by cases h), fun _ => ⟨fun h => (by cases h), fun _ => ?_⟩⟩
            refine ⟨(q, rdA 0 88 77, 0, q'), ⟨rfl, rfl, rfl, rfl, ⟨rdK_ok, i32B_ok (by decide), i32B_ok (by decide), i32B_ok (by decide)⟩, hx⟩, ?_⟩
            refine e_again (j + 1, q') ⟨hjl, hI'⟩ (by simp only; omega) (into [0, 1, 2, 3] ⟨⟨_, rfl, rfl⟩, ⟨_, rfl, rfl⟩, ⟨_, rfl, rfl⟩, ⟨_, rfl, fvb ?_⟩, ⟨_, rfl, fvb ?_⟩, ⟨_, rfl, rfl⟩, ⟨_, rfl, rfl⟩, ⟨_, rfl, fvi hw⟩, trivial⟩ ⟨_, rfl, rfl⟩ rfl rfl rfl rfl)
            · simp
            · show _ = anyP tk l (j + 1)
              rw [hany]
              cases anyP tk l j <;> rfl
          · refine ⟨fun h => (by cases h), fun _ => ⟨fun _ => ?_, fun h => (by cases h)⟩⟩
            refine ⟨(q, rdA 0 77 77, 0, q'), ⟨rfl, rfl, rfl, rfl, ⟨rdK_ok, i32B_ok (by decide), hch32, i32B_ok (by decide)⟩, hx⟩, ?_⟩
            refine ⟨fun _ => hk.1, ?_⟩
            refine e_again (j + 1, q') ⟨hjl, hI'⟩ (by simp only; omega) (into [0, 1, 2, 3] ⟨⟨_, rfl, rfl⟩, ⟨_, rfl, rfl⟩, ⟨_, rfl, rfl⟩, ⟨_, rfl, fvb ?_⟩, ⟨_, rfl, fvb ?_⟩, ⟨_, rfl, rfl⟩, ⟨_, rfl, rfl⟩, ⟨_, rfl, fvi hw⟩, trivial⟩ ⟨_, rfl, rfl⟩ rfl rfl rfl rfl)
            · simp
            · show _ = anyP tk l (j + 1)
              rw [hany]
              cases anyP tk l j <;> rfl
          · refine ⟨fun _ => ⟨fun h => (by cases h), fun _ => ?_⟩, fun h => (by cases h)⟩
            refine ⟨(q, rdA (-5) 88 77, 0, q'), ⟨rfl, rfl, rfl, rfl, ⟨rdK_ok, i32B_ok (by decide), i32B_ok (by decide), i32B_ok (by decide)⟩, hx⟩, ?_⟩
            refine e_again (j + 1, q') ⟨hjl, hI'⟩ (by simp only; omega) (into [0, 1, 2, 3] ⟨⟨_, rfl, rfl⟩, ⟨_, rfl, rfl⟩, ⟨_, rfl, rfl⟩, ⟨_, rfl, fvb ?_⟩, ⟨_, rfl, fvb ?_⟩, ⟨_, rfl, rfl⟩, ⟨_, rfl, rfl⟩, ⟨_, rfl, fvi hw⟩, trivial⟩ ⟨_, rfl, rfl⟩ rfl rfl rfl rfl)
            · simp
            · show _ = anyP tk l (j + 1)
              rw [hany]
              cases anyP tk l j <;> rfl
          · refine ⟨fun _ => ⟨fun _ => ?_, fun h => (by cases h)⟩, fun h => (by cases h)⟩
            refine ⟨(q, rdA (-5) 77 77, 0, q'), ⟨rfl, rfl, rfl, rfl, ⟨rdK_ok, i32B_ok (by decide), hch32, i32B_ok (by decide)⟩, hx⟩, ?_⟩
            refine ⟨fun _ => hk.1, ?_⟩
            refine e_again (j + 1, q') ⟨hjl, hI'⟩ (by simp only; omega) (into [0, 1, 2, 3] ⟨⟨_, rfl, rfl⟩, ⟨_, rfl, rfl⟩, ⟨_, rfl, rfl⟩, ⟨_, rfl, fvb ?_⟩, ⟨_, rfl, fvb ?_⟩, ⟨_, rfl, rfl⟩, ⟨_, rfl, rfl⟩, ⟨_, rfl, fvi hw⟩, trivial⟩ ⟨_, rfl, rfl⟩ rfl rfl rfl rfl)
            · simp
            · show _ = anyP tk l (j + 1)
              rw [hany]
              cases anyP tk l j <;> rfl
        · have h6' : ¬ (j : Int) < l.length := of_decide_eq_false h6
          have hjl : j = l.length := by omega
          subst hjl
          exact fin_k tt_ok (rs := rs_l31_enabled) rfl rfl (hK q hI) [0, 1, 2] rfl rfl rfl rfl rfl rfl
end Go.Proofs

namespace Go.Proofs
open Go Go.Sx
set_option maxRecDepth 10000
noncomputable abbrev eEnabled : Ent := .st (conS (P := Try.prog) (f := f_l31_enabled) fun cargs σ0 => match cargs, σ0 with
  | [.agg cs, .s (.loc 0 0), .s (.sl 1 0 n cap), .s (.int .u8 tk)], [.blk 65 [.sl 2 0 n1 n2], .view ys, .own 5 1 c xs] => some ⟨.ex (List Grd × Ram) fun p => .ask (cs = rdK.sv ∧ n = p.1.length ∧ ys = grdV p.1 ∧ n1 = p.2.l.length ∧ n2 = p.2.l.length ∧ c = p.2.l.length ∧ xs = bytesI p.2.l ∧ p.2.l.length = 1024 ∧ (∀ g ∈ p.1, 0 ≤ g.w ∧ g.w < 256) ∧ p.1.length ≤ 20)
      (.all Ram (fun m => InvE tk p.1 p.1.length m) fun m => .ret (.tup [.s (.bool true), .s (.bool (anyP tk p.1 p.1.length))]) [mBox2 m.l.length, .view (grdV p.1), mOwn m.l]), fun K h => by
      obtain ⟨⟨l, m0⟩, ⟨e1, e2, e3, e4, e5, e6, e7, h1, h2, h3⟩, h⟩ := h
      dsimp only at e1 e2 e3 e4 e5 e6 e7 h1 h2 h3 h
      subst e1; subst e2; subst e3; subst e4; subst e5; subst e6; subst e7
      exact enabled_c l cap tk m0 h1 h2 h3 K h⟩
  | _, _ => none)
theorem grdV_take (l : List Grd) (n : Nat) (h : n ≤ l.length) : seg (grdV l) (0 + 0 * 3) ((n - 0) * 3) = grdV (l.take n) := by
  induction n generalizing l with
  | zero => simp [seg, grdV]
  | succ n ih =>
    cases l with
    | nil => simp at h
    | cons x l =>
      have hx : (Grd.vs x).length = 3 := rfl
      have := ih l (by simpa using h)
      show ((Grd.vs x ++ grdV l).drop 0).take ((n + 1 - 0) * 3) = Grd.vs x ++ grdV (l.take n)
      rw [← this, List.drop_zero, show (n + 1 - 0) * 3 = (Grd.vs x).length + n * 3 by rw [hx]; omega, List.take_length_add_append]
      rfl
noncomputable abbrev ctSl : CT := [(f_l31_ready, eReady), (f_l31_enabled, eEnabled), (f_l31_exec, eExecL), (f_l31_word, eLword), (f_l31_works, .pure spWorks)]
theorem ctSl_ok : CTok Try.prog ctSl := ⟨con_ok cal_l31_ready _, con_ok cal_l31_enabled _, con_ok cal_l31_exec _, con_ok cal_l31_word _, ceWorks, trivial⟩
theorem ten_wrap {i : Nat} (h : i < 20) : IntKind.i32.wrap (IntKind.i64.wrap (10 + (i : Int))) = 10 + (i : Int) := by
  rw [IntKind.wrap_i64, IntKind.wrap_i32]; omega
set_option maxHeartbeats 4000000 in
theorem AltSelects_c (L : List Grd) (cap : Nat) (tk : Int) (hL : ∀ g ∈ L, 0 ≤ g.w ∧ g.w < 256) (hc : L.length ≤ cap) (hm : cap ≤ maxLen) :
    Con Try.prog f_l31_AltSelects [.s (.sl 0 0 L.length cap), .s (.int .u8 tk)] [.view (grdV L)] (.ret (.t (.s (.bool true))) [.view (grdV L)]) := by
  intro K hK
  have hm' : cap ≤ 9223372036854775807 := hm
  obtain ⟨l, hl⟩ : ∃ l, l = L.take (min L.length 20) := ⟨_, rfl⟩
  have hln : l.length = min L.length 20 := by rw [hl, List.length_take]; omega
  have hlw : ∀ g ∈ l, 0 ≤ g.w ∧ g.w < 256 := fun g hg => hL g (by rw [hl] at hg; exact List.mem_of_mem_take hg)
  have hlv : seg (grdV L) (0 + 0 * 3) ((min L.length 20 - 0) * 3) = grdV l := by rw [grdV_take _ _ (by omega), hl]
  have hz : Ram.z.l.length = 1024 := by simp [Ram.z]
  refine enter fn_l31_AltSelects rfl nt_l31_AltSelects rfl rfl (fun φ w0 β0 F => ?_)
  refine c_run tt_ok ctSl_ok k_l31_AltSelects [] 60 (by kernel_rfl) ?_
  refine ⟨0, min L.length 20, ⟨_, _, rfl, rfl, rfl, ?_⟩, ⟨by omega, by omega⟩, ?_⟩
  · show (if (20 : Int) < (L.length : Int) then (20 : Int) else (L.length : Int)) = _
    split <;> omega
  refine ⟨(l, Ram.z), ⟨rfl, hln.symm, hlv, hz.symm, hz.symm, hz.symm, rfl, hz, hlw, by show l.length ≤ 20; omega⟩, fun m hI => ?_⟩
  cases ha : anyP tk l l.length with
  | false =>
    obtain ⟨m', hx, q1, q2, q3⟩ := wait_none hI ha
    refine ⟨(m, (rdA 0 0 0).nobody, 0, m'), ⟨rfl, rfl, rfl, rfl, ⟨rdK_ok, i32B_ok (by decide), i32B_ok (by decide), i32B_ok (by decide)⟩, hx⟩, ?_⟩
    refine ⟨fun h => ?_, fun h => ?_⟩
    · refine ⟨m', ⟨rfl, rfl, rfl, rfl, i32B_ok (by decide)⟩, fun h1 => ?_, fun h1 => ⟨fun h2 => ?_, fun h2 => ?_⟩⟩
      · exfalso; simp [q1, Core.nobody, rdA] at h1; 
      · refine c_ways tt_ok ctSl_ok k_l31_AltSelects rfl rfl ?_
        repeat' (first | exact trivial | (refine ⟨m', ⟨rfl, rfl, rfl, rfl, i32B_ok (by decide)⟩, ?_⟩) | (refine And.intro ?_ ?_) | (intro h; simp [q2] at h; done) | (refine fun _ => ?_))
        all_goals
          refine e_run tt_ok ctSl_ok k_l31_AltSelects [] 60 (by kernel_rfl) ?_
          refine fin_k tt_ok (rs := rs_l31_AltSelects) rfl rfl hK [0] ?_ rfl rfl rfl rfl rfl
          refine t1b ?_
          simp [q2, q3]
      · exfalso; simp at h2
    · exfalso; simp at h
  | true =>
    have hD := dis_init hI
    refine ⟨(m, rdA 0 0 0, 0, m.set (-2147483520) (-1)), ⟨rfl, rfl, rfl, rfl, ⟨rdK_ok, i32B_ok (by decide), i32B_ok (by decide), i32B_ok (by decide)⟩, wait_any hI ha⟩, ?_⟩
    have hW := hD.w0 rfl
    generalize m.set (-2147483520) (-1) = m1 at hD hW
    refine ⟨fun h => ?_, fun h => ?_⟩
    rotate_left
    · exfalso; simp [rdA] at h
    refine ⟨m1, ⟨rfl, rfl, rfl, rfl, i32B_ok (by decide)⟩, fun h1 => ?_, fun h1 => ⟨fun h2 => ?_, fun h2 => ?_⟩⟩
    · exfalso; simp [hW, rdA] at h1
    · exfalso; simp at h2
    show WpC _ _ _ _ _
    refine c_loop (α := Nat × Ram) (fun x => x.1 ≤ l.length ∧ InvD tk l x.1 x.2) (fun x => l.length - x.1)
      (fun x => [(1, .t (.s (.int .u8 tk)), none), (5, .t (.s (.loc 4 0)), none), (6, .t (.s (.loc 2 0)), none), (11, .t (.s (.bool (!anyP tk l x.1))), none), (81, .t (.s (.sl 1 0 l.length cap)), none), (82, .t (.s (.int .i64 (l.length : Int))), none), (83, .t (.s (.int .i64 (x.1 : Int))), none)])
      (fun x => [.view (grdV L), .view (grdV l), .blk 65 [.sl 3 0 x.2.l.length x.2.l.length], mOwn x.2.l, .blk 32 rdK.sv]) (0, m1) ⟨Nat.zero_le _, hD⟩ ?_ ?_
    · exact into [0, 1, 2, 3, 4] ⟨⟨_, rfl, rfl⟩, ⟨_, rfl, rfl⟩, ⟨_, rfl, rfl⟩, ⟨_, rfl, rfl⟩, ⟨_, rfl, fvsl rfl hln.symm rfl⟩, ⟨_, rfl, fvi (by rw [hln]; rfl)⟩, ⟨_, rfl, rfl⟩, trivial⟩ ⟨_, rfl, rfl⟩ rfl rfl rfl rfl
    · rintro ⟨i, q⟩ ⟨hi, hI⟩
      simp only at hi hI
      dsimp only
      refine c_run' tt_ok ctSl_ok k_l31_AltSelects [] 60 (by kernel_rfl) (by kernel_rfl) ?_
      refine ⟨fun h6 => ?_, fun h6 => ?_⟩
      · have h6' : (i : Int) < l.length := of_decide_eq_true h6
        have hil : i < l.length := by omega
        obtain ⟨g, hg⟩ : ∃ g, l[i]? = some g := ⟨l[i], List.getElem?_eq_getElem hil⟩
        have hgw := hlw g (List.mem_of_getElem? hg)
        have hi20 : i < 20 := by omega
        obtain ⟨q', hx, hI', hsel⟩ := dis_step hI hg hgw hi20
        have hrow := grd_row hg
        have hany := anyP_succ (tk := tk) hg
        have hk := Grd.k_range hgw
        have hch32 := inA_i32 (chA_in hk.1 hk.2)
        have hw : IntKind.i64.wrap ((i : Int) + 1) = ((i + 1 : Nat) : Int) := by rw [IntKind.wrap_i64]; omega
        have ha10 : IntKind.i32.wrap (IntKind.i64.wrap (10 + (i : Int))) = 10 + (i : Int) := ten_wrap hi20
        have h032 : I32 0 := i32B_ok (by decide)
        have h132 : I32 1 := i32B_ok (by decide)
        rw [← ha10] at hx
        obtain ⟨t, c, w⟩ := g
        refine ⟨i, ⟨rfl, hil, by show 0 + (i + 1) * (2 + 1) ≤ (grdV l).length; rw [grdV_length]; omega⟩, [.bool t, .bool c, .int .u8 w], rfl, ⟨Nat.le_refl 3, hrow⟩, ?_⟩
        cases t <;> cases c
        · refine ⟨fun h => (by cases h), fun _ => ⟨fun h => (by cases h), fun _ => ?_⟩⟩
          refine ⟨(q, rdA (bif (Grd.rdy tk ⟨false, false, w⟩ && !anyP tk l i) then 1 else 0) 0 0, 0, q'), ⟨rfl, rfl, rfl, rfl, ⟨rdK_ok, I32_wrap _, h032, h032⟩, hx⟩, ?_⟩
          have hR' : Grd.rdy tk ⟨false, false, w⟩ = false := rfl
          rw [hR'] at hsel hany ⊢
          refine ⟨fun h => ?_, fun _ => ?_⟩
          · exfalso
            cases hA : anyP tk l i <;>  simp [hA] at h
          · refine ⟨fun hg5 => ⟨q', ⟨rfl, rfl, rfl, rfl, i32B_ok (by decide)⟩, fun h5 => ?_, fun h5 => ?_⟩, fun hg5 => ⟨fun h5 => absurd (hg5.symm.trans h5) (by decide), fun _ => ⟨hg5, fun h5 => absurd h5 (by decide), fun _ => ?_⟩⟩⟩
            · exfalso
              rw [ha10] at h5
              cases hA : anyP tk l i <;>  first | (simp [hA] at h5; done) | (simp [hA] at hsel h5; done) | (simp [hA] at hsel h5; exact h5 hsel)
            · refine e_again (i + 1, q') ⟨hil, hI'⟩ (by show l.length - (i + 1) < l.length - i; omega) (into [0, 1, 2, 3, 4] ⟨⟨_, rfl, rfl⟩, ⟨_, rfl, rfl⟩, ⟨_, rfl, rfl⟩, ⟨_, rfl, fvb ?_⟩, ⟨_, rfl, rfl⟩, ⟨_, rfl, rfl⟩, ⟨_, rfl, fvi hw⟩, trivial⟩ ⟨_, rfl, rfl⟩ rfl rfl rfl rfl)
              show _ = !anyP tk l (i + 1)
              rw [hany]
              cases anyP tk l i <;>  rfl
            · refine e_again (i + 1, q') ⟨hil, hI'⟩ (by show l.length - (i + 1) < l.length - i; omega) (into [0, 1, 2, 3, 4] ⟨⟨_, rfl, rfl⟩, ⟨_, rfl, rfl⟩, ⟨_, rfl, rfl⟩, ⟨_, rfl, fvb ?_⟩, ⟨_, rfl, rfl⟩, ⟨_, rfl, rfl⟩, ⟨_, rfl, fvi hw⟩, trivial⟩ ⟨_, rfl, rfl⟩ rfl rfl rfl rfl)
              show _ = !anyP tk l (i + 1)
              rw [hany]
              cases anyP tk l i <;>  rfl
        · refine ⟨fun h => (by cases h), fun _ => ⟨fun _ => ?_, fun h => (by cases h)⟩⟩
          refine ⟨fun _ => hk.1, ?_⟩
          refine ⟨(q, rdA (bif (Grd.rdy tk ⟨false, true, w⟩ && !anyP tk l i) then 1 else 0) 0 0, 0, q'), ⟨rfl, rfl, rfl, rfl, ⟨rdK_ok, I32_wrap _, h032, hch32⟩, hx⟩, ?_⟩
          have hR' : Grd.rdy tk ⟨false, true, w⟩ = false := rfl
          rw [hR'] at hsel hany ⊢
          refine ⟨fun h => ?_, fun _ => ?_⟩
          · exfalso
            cases hA : anyP tk l i <;>  simp [hA] at h
          · refine ⟨fun hg5 => ⟨q', ⟨rfl, rfl, rfl, rfl, i32B_ok (by decide)⟩, fun h5 => ?_, fun h5 => ?_⟩, fun hg5 => ⟨fun h5 => absurd (hg5.symm.trans h5) (by decide), fun _ => ⟨hg5, fun h5 => absurd h5 (by decide), fun _ => ?_⟩⟩⟩
            · exfalso
              rw [ha10] at h5
              cases hA : anyP tk l i <;>  first | (simp [hA] at h5; done) | (simp [hA] at hsel h5; done) | (simp [hA] at hsel h5; exact h5 hsel)
            · refine e_again (i + 1, q') ⟨hil, hI'⟩ (by show l.length - (i + 1) < l.length - i; omega) (into [0, 1, 2, 3, 4] ⟨⟨_, rfl, rfl⟩, ⟨_, rfl, rfl⟩, ⟨_, rfl, rfl⟩, ⟨_, rfl, fvb ?_⟩, ⟨_, rfl, rfl⟩, ⟨_, rfl, rfl⟩, ⟨_, rfl, fvi hw⟩, trivial⟩ ⟨_, rfl, rfl⟩ rfl rfl rfl rfl)
              show _ = !anyP tk l (i + 1)
              rw [hany]
              cases anyP tk l i <;>  rfl
            · refine e_again (i + 1, q') ⟨hil, hI'⟩ (by show l.length - (i + 1) < l.length - i; omega) (into [0, 1, 2, 3, 4] ⟨⟨_, rfl, rfl⟩, ⟨_, rfl, rfl⟩, ⟨_, rfl, rfl⟩, ⟨_, rfl, fvb ?_⟩, ⟨_, rfl, rfl⟩, ⟨_, rfl, rfl⟩, ⟨_, rfl, fvi hw⟩, trivial⟩ ⟨_, rfl, rfl⟩ rfl rfl rfl rfl)
              show _ = !anyP tk l (i + 1)
              rw [hany]
              cases anyP tk l i <;>  rfl
        · refine ⟨fun _ => ⟨fun h => (by cases h), fun _ => ?_⟩, fun h => (by cases h)⟩
          refine ⟨(q, rdA (bif (Grd.rdy tk ⟨true, false, w⟩ && !anyP tk l i) then 1 else 0) 0 0, 0, q'), ⟨rfl, rfl, rfl, rfl, ⟨rdK_ok, I32_wrap _, h132, h032⟩, hx⟩, ?_⟩
          have hR' : Grd.rdy tk ⟨true, false, w⟩ = true := rfl
          rw [hR'] at hsel hany ⊢
          refine ⟨fun h => ?_, fun _ => ?_⟩
          · exfalso
            cases hA : anyP tk l i <;>  simp [hA] at h
          · refine ⟨fun hg5 => ⟨q', ⟨rfl, rfl, rfl, rfl, i32B_ok (by decide)⟩, fun h5 => ?_, fun h5 => ?_⟩, fun hg5 => ⟨fun h5 => absurd (hg5.symm.trans h5) (by decide), fun _ => ⟨hg5, fun h5 => absurd h5 (by decide), fun _ => ?_⟩⟩⟩
            · exfalso
              rw [ha10] at h5
              cases hA : anyP tk l i <;>  first | (simp [hA] at h5; done) | (simp [hA] at hsel h5; done) | (simp [hA] at hsel h5; exact h5 hsel)
            · refine e_again (i + 1, q') ⟨hil, hI'⟩ (by show l.length - (i + 1) < l.length - i; omega) (into [0, 1, 2, 3, 4] ⟨⟨_, rfl, rfl⟩, ⟨_, rfl, rfl⟩, ⟨_, rfl, rfl⟩, ⟨_, rfl, fvb ?_⟩, ⟨_, rfl, rfl⟩, ⟨_, rfl, rfl⟩, ⟨_, rfl, fvi hw⟩, trivial⟩ ⟨_, rfl, rfl⟩ rfl rfl rfl rfl)
              show _ = !anyP tk l (i + 1)
              rw [hany]
              cases anyP tk l i <;>  rfl
            · refine e_again (i + 1, q') ⟨hil, hI'⟩ (by show l.length - (i + 1) < l.length - i; omega) (into [0, 1, 2, 3, 4] ⟨⟨_, rfl, rfl⟩, ⟨_, rfl, rfl⟩, ⟨_, rfl, rfl⟩, ⟨_, rfl, fvb ?_⟩, ⟨_, rfl, rfl⟩, ⟨_, rfl, rfl⟩, ⟨_, rfl, fvi hw⟩, trivial⟩ ⟨_, rfl, rfl⟩ rfl rfl rfl rfl)
              show _ = !anyP tk l (i + 1)
              rw [hany]
              cases anyP tk l i <;>  rfl
        · refine ⟨fun _ => ⟨fun _ => ?_, fun h => (by cases h)⟩, fun h => (by cases h)⟩
          refine ⟨fun _ => hk.1, ?_⟩
          refine ⟨(q, rdA (bif (Grd.rdy tk ⟨true, true, w⟩ && !anyP tk l i) then 1 else 0) 0 0, 0, q'), ⟨rfl, rfl, rfl, rfl, ⟨rdK_ok, I32_wrap _, h132, hch32⟩, hx⟩, ?_⟩
          have hR' : Grd.rdy tk ⟨true, true, w⟩ = (bits BinOp.and .u8 (tk.fdiv (2 ^ min (IntKind.i32.wrap (w.tmod 8)).toNat IntKind.u8.bits)) 1 == 1) := rfl
          rw [hR'] at hsel hany ⊢
          refine ⟨fun h => ?_, fun _ => ?_⟩
          · exfalso
            cases hA : anyP tk l i <;> cases hR : (bits BinOp.and .u8 (tk.fdiv (2 ^ min (IntKind.i32.wrap (w.tmod 8)).toNat IntKind.u8.bits)) 1 == 1) <;> simp [hA, hR] at h
          · refine ⟨fun hg5 => ⟨q', ⟨rfl, rfl, rfl, rfl, i32B_ok (by decide)⟩, fun h5 => ?_, fun h5 => ?_⟩, fun hg5 => ⟨fun h5 => absurd (hg5.symm.trans h5) (by decide), fun _ => ⟨hg5, fun h5 => absurd h5 (by decide), fun _ => ?_⟩⟩⟩
            · exfalso
              rw [ha10] at h5
              cases hA : anyP tk l i <;> cases hR : (bits BinOp.and .u8 (tk.fdiv (2 ^ min (IntKind.i32.wrap (w.tmod 8)).toNat IntKind.u8.bits)) 1 == 1) <;> first | (simp [hA, hR] at h5; done) | (simp [hA, hR] at hsel h5; done) | (simp [hA, hR] at hsel h5; exact h5 hsel)
            · refine e_again (i + 1, q') ⟨hil, hI'⟩ (by show l.length - (i + 1) < l.length - i; omega) (into [0, 1, 2, 3, 4] ⟨⟨_, rfl, rfl⟩, ⟨_, rfl, rfl⟩, ⟨_, rfl, rfl⟩, ⟨_, rfl, fvb ?_⟩, ⟨_, rfl, rfl⟩, ⟨_, rfl, rfl⟩, ⟨_, rfl, fvi hw⟩, trivial⟩ ⟨_, rfl, rfl⟩ rfl rfl rfl rfl)
              show _ = !anyP tk l (i + 1)
              rw [hany]
              cases anyP tk l i <;> cases (bits BinOp.and .u8 (tk.fdiv (2 ^ min (IntKind.i32.wrap (w.tmod 8)).toNat IntKind.u8.bits)) 1 == 1) <;> rfl
            · refine e_again (i + 1, q') ⟨hil, hI'⟩ (by show l.length - (i + 1) < l.length - i; omega) (into [0, 1, 2, 3, 4] ⟨⟨_, rfl, rfl⟩, ⟨_, rfl, rfl⟩, ⟨_, rfl, rfl⟩, ⟨_, rfl, fvb ?_⟩, ⟨_, rfl, rfl⟩, ⟨_, rfl, rfl⟩, ⟨_, rfl, fvi hw⟩, trivial⟩ ⟨_, rfl, rfl⟩ rfl rfl rfl rfl)
              show _ = !anyP tk l (i + 1)
              rw [hany]
              cases anyP tk l i <;> cases (bits BinOp.and .u8 (tk.fdiv (2 ^ min (IntKind.i32.wrap (w.tmod 8)).toNat IntKind.u8.bits)) 1 == 1) <;> rfl
      · have h6' : ¬ (i : Int) < l.length := of_decide_eq_false h6
        have hil : i = l.length := by omega
        subst hil
        show WpC _ _ _ _ _
        refine c_loop (α := Nat) (fun j => j ≤ 8) (fun j => 8 - j)
          (fun j => [(1, .t (.s (.int .u8 tk)), none), (5, .t (.s (.loc 3 0)), none), (6, .t (.s (.loc 1 0)), none), (21, .t (.s (.int .i32 (j : Int))), none)])
          (fun _ => [.view (grdV L), .blk 65 [.sl 2 0 q.l.length q.l.length], mOwn q.l, .blk 32 rdK.sv]) 0 (by decide) ?_ ?_
        · exact into [0, 2, 3, 4] ⟨⟨_, rfl, rfl⟩, ⟨_, rfl, rfl⟩, ⟨_, rfl, rfl⟩, ⟨_, rfl, rfl⟩, trivial⟩ ⟨_, rfl, rfl⟩ rfl rfl rfl rfl
        · intro j hj
          dsimp only
          refine c_run' tt_ok ctSl_ok k_l31_AltSelects [] 60 (by kernel_rfl) (by kernel_rfl) ?_
          refine ⟨fun h7 => ?_, fun h7 => ?_⟩
          · have h7' : (j : Int) < 8 := of_decide_eq_true h7
            have hdd := dis_done hI (k := (j : Int)) (by omega) h7'
            have hw : IntKind.i32.wrap ((j : Int) + 1) = ((j + 1 : Nat) : Int) := by rw [IntKind.wrap_i32]; omega
            refine ⟨by show (0 : Int) ≤ (j : Int); omega, fun h8 => ?_, fun h8 => ?_⟩
            · rw [show tkB tk (j : Int) = true from h8, cond_true] at hdd
              refine ⟨q, ⟨rfl, rfl, rfl, rfl, I32_wrap _⟩, fun h9 => ?_, fun _ => ?_⟩
              · exfalso
                replace h9 : (q.word (chA (j : Int)) != prA (j : Int)) = true := h9
                rw [hdd] at h9; simp at h9
              · exact e_again (j + 1) (by omega) (by show 8 - (j + 1) < 8 - j; omega) (into [0, 1, 2, 3] ⟨⟨_, rfl, rfl⟩, ⟨_, rfl, rfl⟩, ⟨_, rfl, rfl⟩, ⟨_, rfl, fvi hw⟩, trivial⟩ ⟨_, rfl, rfl⟩ rfl rfl rfl rfl)
            · rw [show tkB tk (j : Int) = false from h8, cond_false] at hdd
              refine ⟨q, ⟨rfl, rfl, rfl, rfl, I32_wrap _⟩, fun h9 => ?_, fun _ => ?_⟩
              · exfalso
                replace h9 : (q.word (chA (j : Int)) != -2147483648) = true := h9
                rw [hdd] at h9; simp at h9
              · exact e_again (j + 1) (by omega) (by show 8 - (j + 1) < 8 - j; omega) (into [0, 1, 2, 3] ⟨⟨_, rfl, rfl⟩, ⟨_, rfl, rfl⟩, ⟨_, rfl, rfl⟩, ⟨_, rfl, fvi hw⟩, trivial⟩ ⟨_, rfl, rfl⟩ rfl rfl rfl rfl)
          · have hsel := hI.w1 ha
            refine ⟨q, ⟨rfl, rfl, rfl, rfl, i32B_ok (by decide)⟩, ?_⟩
            refine ⟨(q, rdI (IntKind.i32.wrap (-2147483048 + q.word (-2147483520))), 0, q), ⟨rfl, rfl, rfl, rfl, ⟨rdK_ok, i32B_ok (by decide), i32B_ok (by decide), i32B_ok (by decide)⟩, end_step hI.len⟩, ?_⟩
            refine ⟨fun _ => trivial, ?_⟩
            refine fin_k tt_ok (rs := rs_l31_AltSelects) rfl rfl hK [0] ?_ rfl rfl rfl rfl rfl
            refine t1b ?_
            simp
            omega
end Go.Proofs

namespace Go.Proofs
open Go Go.Sx
def Grd.good (g : Grd) : Prop := 0 ≤ g.w ∧ g.w < 256
theorem grd_conv (q : List Value) (h : KOK [.bool, .bool, .int .u8] q) : ∃ e, Grd.good e ∧ q = Grd.vs e := by
  match q, h with
  | [a, b, c], ⟨⟨t, h1⟩, ⟨d, h2⟩, ⟨n, h3, h4⟩, _⟩ =>
    subst h1; subst h2; subst h3
    exact ⟨⟨t, d, n⟩, u8_fit h4, rfl⟩
end Go.Proofs
