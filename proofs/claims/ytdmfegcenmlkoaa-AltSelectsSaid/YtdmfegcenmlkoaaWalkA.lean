/- Memories as a whole: words read and stored, without cases. -/
import Derived.Test.YtdmfegcenmlkoaaTt
import Derived.Test.YtdmfegcenmlkoaaSpec
import Derived.Test.YtdmfegcenmlkoaaSxC

namespace Go.Proofs
open Go Go.Sx
set_option maxRecDepth 10000
theorem may_c (n : Int) : Con Try.prog f_mem_may [.s (.int .i64 n)] [] (.ret (.t (.s (.bool (mayM n)))) []) := by
  intro K hK
  refine enter fn_mem_may rfl nt_mem_may rfl rfl (fun φ w0 β0 F => ?_)
  refine c_run tt_ok (ct := []) trivial k_mem_may [] 60 (by kernel_rfl) ?_
  exact fin_k tt_ok (rs := rs_mem_may) rfl rfl hK [] rfl rfl rfl rfl rfl rfl
theorem none_c (n c c' : Nat) (xs : List Value) : Con Try.prog f_mem_Mem_none [.s (.loc 0 0)] [.blk 65 [.sl 1 0 n c], .own 5 1 c' xs] (.ret (.t (.s (.bool ((n : Int) == 0)))) [.blk 65 [.sl 1 0 n c], .own 5 1 c' xs]) := by
  intro K hK
  refine enter fn_mem_Mem_none rfl nt_mem_Mem_none rfl rfl (fun φ w0 β0 F => ?_)
  refine c_run tt_ok (ct := []) trivial k_mem_Mem_none [] 60 (by kernel_rfl) ?_
  exact fin_k tt_ok (rs := rs_mem_Mem_none) rfl rfl hK [0, 1] rfl rfl rfl rfl rfl rfl
theorem none_n : Con Try.prog f_mem_Mem_none [.s (.raw (.pointer none))] [] (.ret (.t (.s (.bool true))) []) := by
  intro K hK
  refine enter fn_mem_Mem_none rfl nt_mem_Mem_none rfl rfl (fun φ w0 β0 F => ?_)
  refine c_run tt_ok (ct := []) trivial k_mem_Mem_none [] 60 (by kernel_rfl) ?_
  refine ⟨fun h => (by cases h), fun _ => ⟨fun h => (by cases h), fun _ => ⟨fun h => (by cases h), fun _ => ⟨fun h => (by cases h), fun _ => ⟨fun h => (by cases h), fun _ => ?_⟩⟩⟩⟩⟩
  refine ⟨rfl, ?_⟩
  show WpE _ _ _ _ _
  exact fin_k tt_ok (rs := rs_mem_Mem_none) rfl rfl hK [] rfl rfl rfl rfl rfl rfl
noncomputable abbrev eNone : Ent := .st (conS (P := Try.prog) (f := f_mem_Mem_none) fun cargs σ0 => match cargs, σ0 with
  | [.s (.loc 0 0)], [.blk 65 [.sl 1 0 n c], .own 5 1 c' xs] => some ⟨.ret (.t (.s (.bool ((n : Int) == 0)))) [.blk 65 [.sl 1 0 n c], .own 5 1 c' xs], fun K h => none_c n c c' xs K h⟩
  | _, _ => none)
noncomputable abbrev ctN : CT := [(f_mem_Mem_none, eNone)]
theorem ctN_ok : CTok Try.prog ctN := ⟨con_ok cal_mem_Mem_none _, trivial⟩
theorem span_c (n : Nat) (xs : List Value) (at_ k : Int) (hn : n ≤ 65536) (ha : I32 at_) (hk : 1 ≤ k) (hk' : k ≤ 4294967296) (h0 : 1 ≤ n) : Con Try.prog f_mem_Mem_span [.s (.loc 0 0), .s (.int .i32 at_), .s (.int .i64 k)] [.blk 65 [.sl 1 0 n n], .own 5 1 n xs]
    (.br (spanBad n at_ k) (.ret (.tup [.s (.raw (.slice none 0 0)), .s (.int .i64 4)]) [.blk 65 [.sl 1 0 n n], .own 5 1 n xs])
      (.ret (.tup [.s (.sl 1 (ofAt at_).toNat k.toNat k.toNat), .s (.int .i64 0)]) [.blk 65 [.sl 1 0 n n], .own 5 1 n xs])) := by
  intro K ⟨hK1, hK2⟩
  refine enter fn_mem_Mem_span rfl nt_mem_Mem_span rfl rfl (fun φ w0 β0 F => ?_)
  refine c_run tt_ok ctN_ok k_mem_Mem_span [] 60 (by kernel_rfl) ?_
  unfold I32 at ha
  have e0 : IntKind.i64.wrap (IntKind.i64.wrap at_ - -2147483648) = ofAt at_ := by unfold ofAt; rw [wrap64 (n := at_) (by omega) (by omega), wrap64 (by omega) (by omega)]; omega
  have e1 : IntKind.i64.wrap ((n : Int) - ofAt at_) = n - ofAt at_ := by unfold ofAt; rw [wrap64 (by omega) (by omega)]
  have e2 : (bif decide (IntKind.i64.wrap (IntKind.i64.wrap at_ - -2147483648) ≥ (n : Int)) then true else decide (k > IntKind.i64.wrap ((n : Int) - IntKind.i64.wrap (IntKind.i64.wrap at_ - -2147483648)))) = spanBad n at_ k := by rw [e0, e1]; rfl
  refine ⟨fun h1 => ?_, fun h1 => ⟨fun h2 => ?_, fun h2 => ?_⟩⟩
  · exfalso; simp at h1; omega
  · exact fin_k tt_ok (rs := rs_mem_Mem_span) rfl rfl (hK1 (e2 ▸ h2)) [0, 1] rfl rfl rfl rfl rfl rfl
  · have hb : spanBad n at_ k = false := e2 ▸ h2
    have hi : (0 : Int) ≤ ofAt at_ ∧ ofAt at_ + k ≤ n := by
      unfold spanBad at hb
      by_cases h : ofAt at_ ≥ n
      · simp [h] at hb
      · simp [h] at hb; unfold ofAt at *; omega
    have e3 : IntKind.i64.wrap (IntKind.i64.wrap (IntKind.i64.wrap at_ - -2147483648) + k) = ofAt at_ + k := by rw [e0, wrap64 (by omega) (by omega)]
    refine ⟨(ofAt at_).toNat, (ofAt at_).toNat + k.toNat, (ofAt at_).toNat + k.toNat, ⟨_, _, _, rfl, rfl, rfl, ?_, ?_, ?_⟩, ⟨by omega, by omega, by omega⟩, fun off ho => ?_⟩
    · show _ = _; rw [e0]; omega
    · show _ = _; rw [e3]; omega
    · show _ = _; rw [e3]; omega
    · have ho' := ho (by omega)
      have ho2 : off = (ofAt at_).toNat := by rw [ho']; simp
      subst ho2
      refine fin_k tt_ok (rs := rs_mem_Mem_span) rfl rfl (hK2 hb) [0, 1] ?_ rfl rfl rfl rfl rfl
      rw [show (ofAt at_).toNat + k.toNat - (ofAt at_).toNat = k.toNat by omega]
      rfl
end Go.Proofs

namespace Go.Proofs
open Go Go.Sx
set_option maxRecDepth 10000
theorem andNot3_i32 {v : Int} (h : I32 v) : bits .andNot .i32 v 3 = v - v % 4 := by
  have e : bits .andNot .i32 v 3 = IntKind.i32.wrap ((BitVec.ofInt 32 v &&& ~~~ BitVec.ofInt 32 3).toNat : Int) := rfl
  have hn : ∀ i, i < 32 → (~~~ BitVec.ofInt 32 3).getLsbD i = decide (2 ≤ i) := by decide
  have e1 : BitVec.ofInt 32 v &&& ~~~ BitVec.ofInt 32 3 = (BitVec.ofInt 32 v >>> 2) <<< 2 := by
    apply BitVec.eq_of_getLsbD_eq
    intro i hi
    rw [BitVec.getLsbD_and, hn i hi, BitVec.getLsbD_shiftLeft, BitVec.getLsbD_ushiftRight]
    by_cases h2 : 2 ≤ i
    · have : ¬ i < 2 := by omega
      simp [h2, this, hi, show 2 + (i - 2) = i by omega]
    · have : i < 2 := by omega
      simp [h2, this]
  have e2 : (((BitVec.ofInt 32 v >>> 2) <<< 2).toNat : Int) = v % 4294967296 / 4 * 4 := by
    rw [BitVec.toNat_shiftLeft, BitVec.toNat_ushiftRight, BitVec.toNat_ofInt, Nat.shiftLeft_eq, Nat.shiftRight_eq_div_pow]
    have : ((2 ^ 32 : Nat) : Int) = 4294967296 := rfl
    rw [this]; omega
  rw [e, e1, e2, IntKind.wrap_i32]
  unfold I32 at h; omega
noncomputable abbrev eSpan : Ent := .st (conS (P := Try.prog) (f := f_mem_Mem_span) fun cargs σ0 => match cargs, σ0 with
  | [.s (.loc 0 0), .s (.int .i32 a), .s (.int .i64 k)], [.blk 65 [.sl 1 0 n n'], .own 5 1 c xs] => some ⟨.ask (n' = n ∧ c = n ∧ n ≤ 65536 ∧ I32 a ∧ 1 ≤ k ∧ k ≤ 4294967296 ∧ 1 ≤ n)
      (.br (spanBad n a k) (.ret (.tup [.s (.raw (.slice none 0 0)), .s (.int .i64 4)]) [.blk 65 [.sl 1 0 n n], .own 5 1 n xs])
        (.ret (.tup [.s (.sl 1 (ofAt a).toNat k.toNat k.toNat), .s (.int .i64 0)]) [.blk 65 [.sl 1 0 n n], .own 5 1 n xs])), fun K h => by
      obtain ⟨⟨e1, e2, h1, h2, h3, h4, h5⟩, h6⟩ := h
      subst e1; subst e2
      exact span_c _ xs a k h1 h2 h3 h4 h5 K h6⟩
  | _, _ => none)
noncomputable abbrev ctS : CT := [(f_mem_Mem_span, eSpan)]
theorem ctS_ok : CTok Try.prog ctS := ⟨con_ok cal_mem_Mem_span _, trivial⟩
def wAt (a : Int) : Int := a - a % 4
theorem wAt_i32 {a : Int} (h : I32 a) : I32 (wAt a) := by unfold I32 at *; unfold wAt; omega
theorem word_c (n : Nat) (xs : List Value) (at_ : Int) (hn : n ≤ 65536) (ha : I32 at_) (h0 : 1 ≤ n) : Con Try.prog f_mem_Mem_word [.s (.loc 0 0), .s (.int .i32 at_)] [.blk 65 [.sl 1 0 n n], .own 5 1 n xs]
    (.br (spanBad n (wAt at_) 4) (.ret (.tup [.s (.raw (.slice none 0 0)), .s (.int .i64 4)]) [.blk 65 [.sl 1 0 n n], .own 5 1 n xs])
      (.ret (.tup [.s (.sl 1 (ofAt (wAt at_)).toNat 4 4), .s (.int .i64 0)]) [.blk 65 [.sl 1 0 n n], .own 5 1 n xs])) := by
  intro K ⟨hK1, hK2⟩
  refine enter fn_mem_Mem_word rfl nt_mem_Mem_word rfl rfl (fun φ w0 β0 F => ?_)
  refine c_run tt_ok ctS_ok k_mem_Mem_word [] 60 (by kernel_rfl) ?_
  have e : bits .andNot .i32 at_ 3 = wAt at_ := andNot3_i32 ha
  rw [← e] at hK1 hK2
  refine ⟨⟨rfl, rfl, hn, e ▸ wAt_i32 ha, by decide, by decide, h0⟩, fun h => ?_, fun h => ?_⟩
  · exact fin_k tt_ok (rs := rs_mem_Mem_word) rfl rfl (hK1 h) [0, 1] rfl rfl rfl rfl rfl rfl
  · exact fin_k tt_ok (rs := rs_mem_Mem_word) rfl rfl (hK2 h) [0, 1] rfl rfl rfl rfl rfl rfl
theorem spanBad_i {n : Nat} {a k : Int} (ha : I32 a) (h : spanBad n a k = false) : 0 ≤ ofAt a ∧ ofAt a + k ≤ n ∧ ofAt a < n := by
  unfold spanBad at h
  unfold I32 at ha
  by_cases h' : ofAt a ≥ n
  · simp [h'] at h
  · simp [h'] at h; unfold ofAt at *; omega
theorem or_u32 {a b : Int} {k : Nat} (a0 : 0 ≤ a) (a1 : a < 2 ^ k) (b0 : 0 ≤ b) (hb : a + 2 ^ k * b < 4294967296) : bits .or .u32 a (2 ^ k * b) = a + 2 ^ k * b := by
  have e : bits .or .u32 a (2 ^ k * b) = IntKind.u32.wrap ((BitVec.ofInt 32 a ||| BitVec.ofInt 32 (2 ^ k * b)).toNat : Int) := rfl
  have hp := pow2_pos k
  have hm := Int.mul_nonneg (show (0 : Int) ≤ 2 ^ k by omega) b0
  obtain ⟨A, rfl⟩ : ∃ A : Nat, a = A := ⟨_, (Int.toNat_of_nonneg a0).symm⟩
  obtain ⟨B, rfl⟩ : ∃ B : Nat, b = B := ⟨_, (Int.toNat_of_nonneg b0).symm⟩
  have c : (2 : Int) ^ k * (B : Int) = ((2 ^ k * B : Nat) : Int) := by simp
  rw [c] at hb hm e ⊢
  have a1' : A < 2 ^ k := by have : (A : Int) < ((2 ^ k : Nat) : Int) := by simpa using a1
                             omega
  rw [e, BitVec.ofInt_natCast, BitVec.ofInt_natCast, BitVec.toNat_or, BitVec.toNat_ofNat, BitVec.toNat_ofNat, Nat.mod_eq_of_lt (by omega), Nat.mod_eq_of_lt (by omega), Nat.or_comm, ← Nat.two_pow_add_eq_or_of_lt a1', IntKind.wrap_u32]
  omega
/-- The word at place i. -/
def getW (l : List Int) (i : Nat) : Int := Wd (l.getD i 0 + 256 * l.getD (i + 1) 0 + 65536 * l.getD (i + 2) 0 + 16777216 * l.getD (i + 3) 0)
noncomputable abbrev eWord_ : Ent := .st (conS (P := Try.prog) (f := f_mem_Mem_word) fun cargs σ0 => match cargs, σ0 with
  | [.s (.loc 0 0), .s (.int .i32 a)], [.blk 65 [.sl 1 0 n n'], .own 5 1 c xs] => some ⟨.ask (n' = n ∧ c = n ∧ n ≤ 65536 ∧ I32 a ∧ 1 ≤ n)
      (.br (spanBad n (wAt a) 4) (.ret (.tup [.s (.raw (.slice none 0 0)), .s (.int .i64 4)]) [.blk 65 [.sl 1 0 n n], .own 5 1 n xs])
        (.ret (.tup [.s (.sl 1 (ofAt (wAt a)).toNat 4 4), .s (.int .i64 0)]) [.blk 65 [.sl 1 0 n n], .own 5 1 n xs])), fun K h => by
      obtain ⟨⟨e1, e2, h1, h2, h3⟩, h6⟩ := h
      subst e1; subst e2
      exact word_c _ xs a h1 h2 h3 K h6⟩
  | _, _ => none)
noncomputable abbrev ctW : CT := [(f_mem_Mem_word, eWord_)]
theorem ctW_ok : CTok Try.prog ctW := ⟨con_ok cal_mem_Mem_word _, trivial⟩
theorem Word_c (l : List Int) (at_ : Int) (hn : l.length ≤ 65536) (ha : I32 at_) (h0 : 1 ≤ l.length) (hl : ∀ b ∈ l, 0 ≤ b ∧ b < 256) : Con Try.prog f_mem_Mem_Word [.s (.loc 0 0), .s (.int .i32 at_)] [mBox l.length, mOwn l]
    (.br (spanBad l.length (wAt at_) 4) (.ret (.tup [.s (.int .i32 0), .s (.int .i64 4)]) [mBox l.length, mOwn l])
      (.ret (.tup [.s (.int .i32 (getW l (ofAt (wAt at_)).toNat)), .s (.int .i64 0)]) [mBox l.length, mOwn l])) := by
  intro K ⟨hK1, hK2⟩
  refine enter fn_mem_Mem_Word rfl nt_mem_Mem_Word rfl rfl (fun φ w0 β0 F => ?_)
  refine c_run tt_ok ctW_ok k_mem_Mem_Word [] 60 (by kernel_rfl) ?_
  refine ⟨⟨rfl, rfl, hn, ha, h0⟩, fun h => ⟨fun h2 => ?_, fun h2 => ?_⟩, fun h => ⟨fun h2 => ?_, fun h2 => ?_⟩⟩
  · exact fin_k tt_ok (rs := rs_mem_Mem_Word) rfl rfl (hK1 h) [0, 1] rfl rfl rfl rfl rfl rfl
  · exact absurd h2 (by decide)
  · exact absurd h2 (by decide)
  · have hi := spanBad_i (wAt_i32 ha) h
    generalize hI : (ofAt (wAt at_)).toNat = i at *
    have g : ∀ k, k < 4 → (bytesI l)[i + k * (0 + 1)]? = some (SV.int .u8 (l.getD (i + k) 0)).cv := fun k hk => by
      rw [Nat.zero_add, Nat.mul_one]; exact bytesI_at (by omega)
    have hx : ∀ k, k < 4 → 0 ≤ l.getD (i + k) 0 ∧ l.getD (i + k) 0 < 256 := fun k hk => by
      have : l.getD (i + k) 0 ∈ l := by
        rw [List.getD_eq_getElem?_getD, List.getElem?_eq_getElem (by omega)]; exact List.getElem_mem _
      exact hl _ this
    refine ⟨0, ⟨rfl, by omega, by simp; omega⟩, .int .u8 (l.getD (i + 0) 0), rfl, g 0 (by decide), ?_⟩
    refine ⟨1, ⟨rfl, by omega, by simp; omega⟩, .int .u8 (l.getD (i + 1) 0), rfl, g 1 (by decide), ?_⟩
    refine ⟨2, ⟨rfl, by omega, by simp; omega⟩, .int .u8 (l.getD (i + 2) 0), rfl, g 2 (by decide), ?_⟩
    refine ⟨3, ⟨rfl, by omega, by simp; omega⟩, .int .u8 (l.getD (i + 3) 0), rfl, g 3 (by decide), ?_⟩
    refine fin_k tt_ok (rs := rs_mem_Mem_Word) rfl rfl (hK2 h) [0, 1] (t2 ?_ rfl) rfl rfl rfl rfl rfl
    have h0' := hx 0 (by decide)
    have h1' := hx 1 (by decide)
    have h2' := hx 2 (by decide)
    have h3' := hx 3 (by decide)
    unfold getW
    generalize l.getD (i + 1) 0 = b1 at *
    generalize l.getD (i + 2) 0 = b2 at *
    generalize l.getD (i + 3) 0 = b3 at *
    simp only [Nat.add_zero] at h0' ⊢
    generalize l.getD i 0 = b0 at *
    have e : ∀ {b : Int} {k : Nat}, 0 ≤ b → b < 256 → k ≤ 24 → IntKind.u32.wrap (IntKind.u32.wrap b * 2 ^ min k IntKind.u32.bits) = 2 ^ k * b := fun {b k} hb hb' hk => by
      have e1 : min k IntKind.u32.bits = k := Nat.min_eq_left (Nat.le_trans hk (by decide))
      have e2 : (2 : Int) ^ k ≤ 16777216 := by
        have : (16777216 : Int) = 2 ^ k * 2 ^ (24 - k) := by rw [← pow_split hk]; decide
        have h3 := pow2_pos (24 - k)
        have h4 := pow2_pos k
        have := Int.mul_le_mul_of_nonneg_left (show (1 : Int) ≤ 2 ^ (24 - k) by omega) (show (0 : Int) ≤ 2 ^ k by omega)
        omega
      have h4 := pow2_pos k
      have h5 := Int.mul_nonneg hb (show (0 : Int) ≤ 2 ^ k by omega)
      have h6 := Int.mul_le_mul (show b ≤ 255 by omega) e2 (by omega) (by decide)
      rw [e1, IntKind.wrap_u32, IntKind.wrap_u32, Int.emod_eq_of_lt hb (by omega), Int.emod_eq_of_lt h5 (by omega), Int.mul_comm]
    have e0 : IntKind.u32.wrap b0 = b0 := by rw [IntKind.wrap_u32]; omega
    have p8 : (2 : Int) ^ 8 = 256 := by decide
    have p16 : (2 : Int) ^ 16 = 65536 := by decide
    have p24 : (2 : Int) ^ 24 = 16777216 := by decide
    rw [e0, e h1'.1 h1'.2 (by decide), e h2'.1 h2'.2 (by decide), e h3'.1 h3'.2 (by decide), or_u32 (k := 8) h0'.1 (by rw [p8]; omega) h1'.1 (by rw [p8]; omega),
      or_u32 (k := 16) (by rw [p8]; omega) (by rw [p8, p16]; omega) h2'.1 (by rw [p8, p16]; omega), or_u32 (k := 24) (by rw [p8, p16]; omega) (by rw [p8, p16, p24]; omega) h3'.1 (by rw [p8, p16, p24]; omega), wrapW, p8, p16, p24]
end Go.Proofs

namespace Go.Proofs
open Go Go.Sx
set_option maxRecDepth 10000
def byK (v : Int) (k : Nat) : Int := Uw v / 256 ^ k % 256
def stW (l : List Int) (i : Nat) (v : Int) : Nat → List Int
  | 0 => l
  | k + 1 => setL (stW l i v k) (i + k) [byK v k]
def setW (l : List Int) (i : Nat) (v : Int) : List Int := stW l i v 4
theorem stW_length {l : List Int} {i : Nat} {v : Int} (h : i + 4 ≤ l.length) : ∀ k, k ≤ 4 → (stW l i v k).length = l.length
  | 0, _ => rfl
  | k + 1, hk => by
    have ih := stW_length (v := v) h k (by omega)
    unfold stW
    rw [setL_length (by rw [ih]; simp; omega), ih]
theorem byK_prog (v : Int) {k : Nat} (hk : k ≤ 3) : IntKind.u8.wrap ((IntKind.u32.wrap v).fdiv (2 ^ min (IntKind.i64.wrap (8 * (k : Int))).toNat IntKind.u32.bits)) = byK v k := by
  have e1 : min (IntKind.i64.wrap (8 * (k : Int))).toNat IntKind.u32.bits = 8 * k := by
    rw [wrap64 (by omega) (by omega)]
    show min _ 32 = _
    omega
  have e2 : (2 : Int) ^ (8 * k) = 256 ^ k := by rw [Int.pow_mul]; rfl
  have hp : (0 : Int) ≤ 256 ^ k := by rw [← e2]; have := pow2_pos (8 * k); omega
  rw [e1, e2, Int.fdiv_eq_ediv_of_nonneg _ hp, IntKind.wrap_u8, IntKind.wrap_u32]; rfl
theorem SetWord_c (l : List Int) (at_ v : Int) (hn : l.length ≤ 65536) (ha : I32 at_) (h0 : 1 ≤ l.length) : Con Try.prog f_mem_Mem_SetWord [.s (.loc 0 0), .s (.int .i32 at_), .s (.int .i32 v)] [mBox l.length, mOwn l]
    (.br (spanBad l.length (wAt at_) 4) (.ret (.t (.s (.int .i64 4))) [mBox l.length, mOwn l])
      (.ret (.t (.s (.int .i64 0))) [mBox l.length, .own 5 1 l.length (bytesI (setW l (ofAt (wAt at_)).toNat v))])) := by
  intro K ⟨hK1, hK2⟩
  refine enter fn_mem_Mem_SetWord rfl nt_mem_Mem_SetWord rfl rfl (fun φ w0 β0 F => ?_)
  refine c_run tt_ok ctW_ok k_mem_Mem_SetWord [] 60 (by kernel_rfl) ?_
  refine ⟨⟨rfl, rfl, hn, ha, h0⟩, fun h => ?_, fun h => ?_⟩
  · show WpC _ _ _ _ _
    refine c_unroll 1 ?_
    refine c_run' tt_ok ctW_ok k_mem_Mem_SetWord [] 60 (by kernel_rfl) (by kernel_rfl) ?_
    refine ⟨fun h2 => ?_, fun h2 => ?_⟩
    · exact absurd h2 (by decide)
    · exact fin_k tt_ok (rs := rs_mem_Mem_SetWord) rfl rfl (hK1 h) [0, 1] rfl rfl rfl rfl rfl rfl
  · have hi := spanBad_i (wAt_i32 ha) h
    generalize hI : (ofAt (wAt at_)).toNat = i at *
    show WpC _ _ _ _ _
    refine c_loop (α := Nat) (fun k => k ≤ 4) (fun k => 4 - k)
      (fun k => [(2, .t (.s (.int .i32 v)), none), (7, .t (.s (.sl 1 i 4 4)), none), (8, .t (.s (.int .i64 0)), none), (17, .t (.s (.int .i64 4)), none), (18, .t (.s (.int .i64 (k : Int))), none)])
      (fun k => [mBox l.length, .own 5 1 l.length (bytesI (stW l i v k))]) 0 (Nat.zero_le _) ?_ ?_
    · exact into [0, 1] ⟨⟨_, rfl, rfl⟩, ⟨_, rfl, rfl⟩, ⟨_, rfl, rfl⟩, ⟨_, rfl, rfl⟩, ⟨_, rfl, rfl⟩, trivial⟩ ⟨_, rfl, rfl⟩ rfl rfl rfl rfl
    · intro k hk
      have hlen := stW_length (l := l) (i := i) (v := v) (by omega) k hk
      refine c_run' tt_ok ctW_ok k_mem_Mem_SetWord [] 60 (by kernel_rfl) (by kernel_rfl) ?_
      refine ⟨fun h2 => ?_, fun h2 => ?_⟩
      · have h2' := of_decide_eq_true h2
        refine ⟨?_, k, ⟨rfl, by omega, by simp; omega⟩, by show i + k * (0 + 1) + 1 ≤ _; simp; omega, ?_⟩
        · show 0 ≤ IntKind.i64.wrap (8 * (k : Int)); rw [wrap64 (by omega) (by omega)]; omega
        · refine e_again (k + 1) (show k + 1 ≤ 4 by omega) (show 4 - (k + 1) < 4 - k by omega) (into [0, 1] ⟨⟨_, rfl, rfl⟩, ⟨_, rfl, rfl⟩, ⟨_, rfl, rfl⟩, ⟨_, rfl, rfl⟩, ⟨_, rfl, fvi (wrapSucc (by omega))⟩, trivial⟩ ⟨_, rfl, ?_⟩ rfl rfl rfl rfl)
          show [mBox l.length, Ch.own 5 1 l.length (setV (bytesI (stW l i v k)) (i + k * (0 + 1)) (bytesI [IntKind.u8.wrap ((IntKind.u32.wrap v).fdiv (2 ^ min (IntKind.i64.wrap (8 * (k : Int))).toNat IntKind.u32.bits))]))] = _
          rw [byK_prog v (by omega), setV_bytesI, Nat.zero_add, Nat.mul_one]; rfl
      · have hk4 : k = 4 := by have := of_decide_eq_false h2; omega
        subst hk4
        exact fin_k tt_ok (rs := rs_mem_Mem_SetWord) rfl rfl (hK2 h) [0, 1] rfl rfl rfl rfl rfl rfl
end Go.Proofs

namespace Go.Proofs
open Go Go.Sx
set_option maxRecDepth 10000
noncomputable abbrev ctM : CT := [(f_mem_may, .st (conS (P := Try.prog) (f := f_mem_may) fun cargs σ0 => match cargs, σ0 with
  | [.s (.int .i64 n)], [] => some ⟨.ret (.t (.s (.bool (mayM n)))) [], fun K h => may_c n K h⟩
  | _, _ => none))]
theorem ctM_ok : CTok Try.prog ctM := ⟨con_ok cal_mem_may _, trivial⟩
theorem mayM_nat {n : Int} (h : mayM n = true) : ∃ k : Nat, n = k ∧ 1024 ≤ k ∧ k ≤ 65536 := by
  unfold mayM at h
  by_cases h1 : n ≥ 1024 <;> by_cases h2 : n ≤ 65536 <;> simp [h1, h2] at h
  exact ⟨n.toNat, by omega, by omega, by omega⟩
theorem New_c (n : Int) : Con Try.prog f_mem_New [.s (.int .i64 n)] [] (.br (mayM n)
    (.ret (.tup [.s (.loc 0 0), .s (.int .i64 0)]) [mBox n.toNat, .own 5 1 n.toNat (bytesI (List.replicate n.toNat 0))])
    (.ret (.tup [.s (.raw (.pointer none)), .s (.int .i64 2)]) [])) := by
  intro K ⟨hK1, hK2⟩
  refine enter fn_mem_New rfl nt_mem_New rfl rfl (fun φ w0 β0 F => ?_)
  refine c_run tt_ok ctM_ok k_mem_New [] 60 (by kernel_rfl) ?_
  refine ⟨fun h => ?_, fun h => ?_⟩
  · have hb : mayM n = false := by simpa using h
    exact fin_k tt_ok (rs := rs_mem_New) rfl rfl (hK2 hb) [] rfl rfl rfl rfl rfl rfl
  · have hb : mayM n = true := by simpa using h
    obtain ⟨k, rfl, h1, h2⟩ := mayM_nat hb
    refine ⟨k, ⟨rfl, rfl, by simp only [maxLen]; omega, by omega⟩, ?_⟩
    refine fin_k tt_ok (rs := rs_mem_New) rfl rfl (hK1 hb) [1, 0] rfl ?_ rfl rfl rfl rfl
    have e : bytesI (List.replicate k 0) = List.replicate k (Value.int .u8 0) := by simp [bytesI]
    rw [Int.toNat_natCast, e]; rfl
theorem Size_c (n c c' : Nat) (xs : List Value) : Con Try.prog f_mem_Mem_Size [.s (.loc 0 0)] [.blk 65 [.sl 1 0 n c], .own 5 1 c' xs] (.ret (.t (.s (.int .i64 (n : Int)))) [.blk 65 [.sl 1 0 n c], .own 5 1 c' xs]) := by
  intro K hK
  refine enter fn_mem_Mem_Size rfl nt_mem_Mem_Size rfl rfl (fun φ w0 β0 F => ?_)
  refine c_run tt_ok ctN_ok k_mem_Mem_Size [] 60 (by kernel_rfl) ?_
  refine ⟨fun h => ?_, fun h => ?_⟩
  · refine fin_k tt_ok (rs := rs_mem_Mem_Size) rfl rfl hK [0, 1] (t1 ?_) rfl rfl rfl rfl rfl
    simpa using h.symm
  · exact fin_k tt_ok (rs := rs_mem_Mem_Size) rfl rfl hK [0, 1] rfl rfl rfl rfl rfl rfl
theorem copy_all (l : List Int) (zs : List Value) (h : zs.length = l.length) : setV zs 0 (seg (bytesI l) 0 l.length) = bytesI l := by
  rw [seg_bytesI, List.drop_zero, List.take_of_length_le (by omega)]
  unfold setV
  rw [List.take_zero, List.nil_append, List.drop_eq_nil_of_le (by simp; omega), List.append_nil]
theorem copy_full (q : List Int) (zs : List Value) (h : zs.length = q.length) : setV zs 0 (bytesI q) = bytesI q := by
  unfold setV
  rw [List.take_zero, List.nil_append, List.drop_eq_nil_of_le (by simp; omega), List.append_nil]
theorem From_c (l : List Int) (cap : Nat) : Con Try.prog f_mem_From [.s (.sl 0 0 l.length cap)] [.view (bytesI l)] (.br (mayM l.length)
    (.ret (.tup [.s (.loc 1 0), .s (.int .i64 0)]) [.view (bytesI l), .blk 65 [.sl 2 0 l.length l.length], mOwn l])
    (.ret (.tup [.s (.raw (.pointer none)), .s (.int .i64 2)]) [.view (bytesI l)])) := by
  intro K ⟨hK1, hK2⟩
  refine enter fn_mem_From rfl nt_mem_From rfl rfl (fun φ w0 β0 F => ?_)
  refine c_run tt_ok ctM_ok k_mem_From [] 60 (by kernel_rfl) ?_
  refine ⟨fun h => ?_, fun h => ?_⟩
  · have hb : mayM l.length = false := by simpa using h
    exact fin_k tt_ok (rs := rs_mem_From) rfl rfl (hK2 hb) [0] rfl rfl rfl rfl rfl rfl
  · have hb : mayM l.length = true := by simpa using h
    obtain ⟨k, e, h1, h2⟩ := mayM_nat hb
    refine ⟨l.length, ⟨rfl, rfl, by simp only [maxLen]; omega, by omega⟩, ?_⟩
    refine ⟨l.length, ⟨by simp, by simp, by simp, by rw [seg_bytesI]; exact bytesI_one _⟩, ?_⟩
    refine fin_k tt_ok (rs := rs_mem_From) rfl rfl (hK1 hb) [0, 2, 1] rfl ?_ rfl rfl rfl rfl
    show pickL [Ch.view (bytesI l), Ch.own 5 1 l.length (setV (List.replicate l.length (Value.int .u8 0)) 0 (seg (bytesI l) 0 l.length)), Ch.blk 65 [SV.sl 1 0 l.length l.length]] [0, 2, 1] = _
    rw [copy_all l _ (by simp)]; rfl
theorem Bytes_c (l : List Int) (hn : l.length ≤ 65536) (h0 : 1 ≤ l.length) : Con Try.prog f_mem_Mem_Bytes [.s (.loc 0 0)] [mBox l.length, mOwn l]
    (.ret (.t (.s (.sl 2 0 l.length l.length))) [mBox l.length, mOwn l, mOwn l]) := by
  intro K hK
  refine enter fn_mem_Mem_Bytes rfl nt_mem_Mem_Bytes rfl rfl (fun φ w0 β0 F => ?_)
  refine c_run tt_ok ctN_ok k_mem_Mem_Bytes [] 60 (by kernel_rfl) ?_
  refine ⟨fun h => ?_, fun h => ?_⟩
  · simp at h; subst h; simp at h0
  · refine ⟨l.length, ⟨rfl, rfl, by simp only [maxLen]; omega, by omega⟩, ?_⟩
    refine ⟨l.length, ⟨by simp, by simp, by simp, ?_⟩, ?_⟩
    · rw [seg_bytesI]; exact bytesI_one _
    · refine fin_k tt_ok (rs := rs_mem_Mem_Bytes) rfl rfl hK [0, 1, 2] rfl ?_ rfl rfl rfl rfl
      show pickL [mBox l.length, mOwn l, Ch.own 5 1 l.length (setV (List.replicate l.length (Value.int .u8 0)) 0 (seg (bytesI l) 0 l.length))] [0, 1, 2] = _
      rw [copy_all l _ (by simp)]; rfl
noncomputable abbrev ctR : CT := [(f_mem_Mem_none, eNone), (f_mem_Mem_span, eSpan)]
theorem ctR_ok : CTok Try.prog ctR := ⟨con_ok cal_mem_Mem_none _, con_ok cal_mem_Mem_span _, trivial⟩
end Go.Proofs

namespace Go.Proofs
open Go Go.Sx
set_option maxRecDepth 10000
/-- The reference's functions. -/
theorem Index_c (a : Int) (ha : I32 a) : Con Try.prog f_r03_Index [.s (.int .i32 a)] [] (.ret (.t (.s (.int .i64 (ofAt a)))) []) := by
  intro K hK
  refine enter fn_r03_Index rfl nt_r03_Index rfl rfl (fun φ w0 β0 F => ?_)
  refine c_run tt_ok (ct := []) trivial k_r03_Index [] 60 (by kernel_rfl) ?_
  unfold I32 at ha
  exact fin_k tt_ok (rs := rs_r03_Index) rfl rfl hK [] (t1 (by rw [wrap64 (n := a) (by omega) (by omega), wrap64 (by omega) (by omega)]; rfl)) rfl rfl rfl rfl rfl
def spIndex : List TV → Option (Prop × FV)
  | [.s (.int .i32 a)] => some (I32 a, .t (.s (.int .i64 (ofAt a))))
  | _ => none
theorem ceIndex : CEok Try.prog f_r03_Index spIndex := ⟨cal_r03_Index, fun args p v h hp => by
  unfold spIndex at h; split at h
  · cases h; exact (Index_c _ hp).pure
  · cases h⟩
def liesB (n a k : Int) : Bool := bif bif decide (k ≥ 0) then decide (ofAt a < n) else false then decide (k ≤ n - ofAt a) else false
theorem lies_span (n : Nat) (a k : Int) (hk : 0 ≤ k) : liesB n a k = !spanBad n a k := by
  unfold liesB spanBad
  by_cases h1 : ofAt a < n <;> by_cases h2 : k ≤ n - ofAt a <;> simp [hk, h1, h2] <;> omega
noncomputable abbrev ctI : CT := [(f_r03_Index, .pure spIndex)]
theorem ctI_ok : CTok Try.prog ctI := ⟨ceIndex, trivial⟩
theorem Lies_c (n a k : Int) (h0 : 0 ≤ n) (hn : n ≤ 4294967296) (ha : I32 a) : Con Try.prog f_r03_Lies [.s (.int .i64 n), .s (.int .i32 a), .s (.int .i64 k)] [] (.ret (.t (.s (.bool (liesB n a k)))) []) := by
  intro K hK
  refine enter fn_r03_Lies rfl nt_r03_Lies rfl rfl (fun φ w0 β0 F => ?_)
  refine c_run tt_ok ctI_ok k_r03_Lies [] 60 (by kernel_rfl) ?_
  refine ⟨ha, ?_⟩
  refine fin_k tt_ok (rs := rs_r03_Lies) rfl rfl hK [] (t1b ?_) rfl rfl rfl rfl rfl
  unfold I32 at ha
  rw [wrap64 (n := n - ofAt a) (by unfold ofAt; omega) (by unfold ofAt; omega)]; rfl
def spLies : List TV → Option (Prop × FV)
  | [.s (.int .i64 n), .s (.int .i32 a), .s (.int .i64 k)] => some (0 ≤ n ∧ n ≤ 4294967296 ∧ I32 a, .t (.s (.bool (liesB n a k))))
  | _ => none
theorem ceLies : CEok Try.prog f_r03_Lies spLies := ⟨cal_r03_Lies, fun args p v h hp => by
  unfold spLies at h; split at h
  · cases h; exact (Lies_c _ _ _ hp.1 hp.2.1 hp.2.2).pure
  · cases h⟩
noncomputable abbrev ctJ : CT := [(f_r03_Index, .pure spIndex), (f_r03_Lies, .pure spLies)]
theorem ctJ_ok : CTok Try.prog ctJ := ⟨ceIndex, ceLies, trivial⟩
end Go.Proofs

namespace Go.Proofs
open Go Go.Sx
set_option maxRecDepth 10000
theorem tmod4 (n : Int) : (0 ≤ n → n.tmod 4 = n % 4) ∧ (n < 0 → n.tmod 4 = -((-n) % 4)) := by
  refine ⟨fun h => Int.tmod_eq_emod_of_nonneg h, fun h => ?_⟩
  have : n = -(-n) := by omega
  rw [this, Int.neg_tmod, Int.tmod_eq_emod_of_nonneg (by omega), Int.neg_neg]
theorem RWord_c (l : List Int) (cap : Nat) (a : Int) (hn : l.length ≤ 65536) (h4 : l.length % 4 = 0) (ha : I32 a) (hl : ∀ b ∈ l, 0 ≤ b ∧ b < 256) : Con Try.prog f_r03_Word [.s (.sl 0 0 l.length cap), .s (.int .i32 a)] [.view (bytesI l)]
    (.br (liesB l.length a 1) (.ret (.tup [.s (.int .i32 (getW l (ofAt (wAt a)).toNat)), .s (.int .i64 0)]) [.view (bytesI l)])
      (.ret (.tup [.s (.int .i32 0), .s (.int .i64 4)]) [.view (bytesI l)])) := by
  intro K ⟨hK1, hK2⟩
  refine enter fn_r03_Word rfl nt_r03_Word rfl rfl (fun φ w0 β0 F => ?_)
  refine c_run tt_ok ctJ_ok k_r03_Word [] 60 (by kernel_rfl) ?_
  refine ⟨⟨by omega, by omega, ha⟩, fun h => ?_, fun h => ?_⟩
  · exact fin_k tt_ok (rs := rs_r03_Word) rfl rfl (hK2 (by simpa using h)) [0] rfl rfl rfl rfl rfl rfl
  · have hb : liesB l.length a 1 = true := by simpa using h
    have hi := spanBad_i ha (k := 1) (n := l.length) (by have := lies_span l.length a 1 (by decide); rw [hb] at this; simpa using this.symm)
    have ei : IntKind.i64.wrap (ofAt a - (ofAt a).tmod 4) = ofAt (wAt a) := by
      rw [(tmod4 _).1 hi.1, wrap64 (by omega) (by omega)]; unfold ofAt wAt; omega
    have hw : 0 ≤ ofAt (wAt a) ∧ ofAt (wAt a) + 4 ≤ l.length := by unfold ofAt wAt at *; omega
    generalize hI : (ofAt (wAt a)).toNat = i at *
    have g : ∀ k, k < 4 → (bytesI l)[0 + (i + k) * (0 + 1)]? = some (SV.int .u8 (l.getD (i + k) 0)).cv := fun k hk => by
      rw [Nat.zero_add, Nat.zero_add, Nat.mul_one]; exact bytesI_at (by omega)
    refine ⟨ha, i + 0, ⟨by rw [ei]; omega, by omega, by simp; omega⟩, .int .u8 (l.getD (i + 0) 0), rfl, g 0 (by decide), ?_⟩
    refine ⟨i + 1, ⟨by rw [ei, wrap64 (by omega) (by omega)]; omega, by omega, by simp; omega⟩, .int .u8 (l.getD (i + 1) 0), rfl, g 1 (by decide), ?_⟩
    refine ⟨i + 2, ⟨by rw [ei, wrap64 (by omega) (by omega)]; omega, by omega, by simp; omega⟩, .int .u8 (l.getD (i + 2) 0), rfl, g 2 (by decide), ?_⟩
    refine ⟨i + 3, ⟨by rw [ei, wrap64 (by omega) (by omega)]; omega, by omega, by simp; omega⟩, .int .u8 (l.getD (i + 3) 0), rfl, g 3 (by decide), ?_⟩
    refine fin_k tt_ok (rs := rs_r03_Word) rfl rfl (hK1 hb) [0] (t2 ?_ rfl) rfl rfl rfl rfl rfl
    have hx : ∀ k, k < 4 → 0 ≤ l.getD (i + k) 0 ∧ l.getD (i + k) 0 < 256 := fun k hk => by
      have : l.getD (i + k) 0 ∈ l := by
        rw [List.getD_eq_getElem?_getD, List.getElem?_eq_getElem (by omega)]; exact List.getElem_mem _
      exact hl _ this
    have h0' := hx 0 (by decide)
    have h1' := hx 1 (by decide)
    have h2' := hx 2 (by decide)
    have h3' := hx 3 (by decide)
    unfold getW
    generalize l.getD (i + 1) 0 = b1 at *
    generalize l.getD (i + 2) 0 = b2 at *
    generalize l.getD (i + 3) 0 = b3 at *
    simp only [Nat.add_zero] at h0' ⊢
    generalize l.getD i 0 = b0 at *
    rw [wrapW]
    simp only [IntKind.wrap_u32]
    unfold Wd; omega
end Go.Proofs

namespace Go.Proofs
open Go Go.Sx
set_option maxRecDepth 10000
theorem Four_c (v : Int) : Con Try.prog f_r03_Four [.s (.int .i32 v)] [] (.ret (.t (.s (.sl 0 0 4 4))) [.own 5 1 4 (bytesI [byK v 0, byK v 1, byK v 2, byK v 3])]) := by
  intro K hK
  refine enter fn_r03_Four rfl nt_r03_Four rfl rfl (fun φ w0 β0 F => ?_)
  refine c_run tt_ok (ct := []) trivial k_r03_Four [] 60 (by kernel_rfl) ?_
  refine fin_k tt_ok (rs := rs_r03_Four) rfl rfl hK [0] rfl ?_ rfl rfl rfl rfl
  have e0 : IntKind.u8.wrap (IntKind.u32.wrap v) = byK v 0 := by rw [IntKind.wrap_u8, IntKind.wrap_u32]; unfold byK Uw; omega
  have e : ∀ (k : Nat) (q : Int), 1 ≤ q → q = 256 ^ k → IntKind.u8.wrap (IntKind.u32.wrap ((IntKind.u32.wrap v).tdiv q)) = byK v k := fun k q hq1 hq => by
    rw [IntKind.wrap_u8, IntKind.wrap_u32, IntKind.wrap_u32, Int.tdiv_eq_ediv_of_nonneg (by omega), hq]
    have h1 : 0 ≤ Uw v / q := Int.ediv_nonneg (Uw_lo v) (by omega)
    have h2 : Uw v / q ≤ Uw v := Int.ediv_le_self _ (Uw_lo v)
    have h3 := Uw_hi v
    rw [hq] at h1 h2
    show Uw v / 256 ^ k % 4294967296 % 256 = Uw v / 256 ^ k % 256
    omega
  rw [e0, e 1 256 (by decide) (by decide), e 2 65536 (by decide) (by decide), e 3 16777216 (by decide) (by decide)]; rfl
end Go.Proofs

namespace Go.Proofs
open Go Go.Sx
set_option maxRecDepth 10000
theorem setL_get {l : List Int} {i j : Nat} {b : Int} (h : i < l.length) : (setL l i [b]).getD j 0 = if j = i then b else l.getD j 0 := by
  unfold setL
  simp only [List.getD_eq_getElem?_getD]
  by_cases h1 : j < i
  · rw [List.append_assoc, List.getElem?_append_left (by simp; omega), List.getElem?_take_of_lt h1, if_neg (by omega)]
  · by_cases h2 : j = i
    · subst h2
      rw [List.append_assoc, List.getElem?_append_right (by simp; omega)]
      simp [show min j l.length = j by omega]
    · rw [List.getElem?_append_right (by simp; omega), if_neg h2]
      simp only [List.length_append, List.length_take, List.length_cons, List.length_nil, List.getElem?_drop]
      congr 2
      omega
theorem stW_get {l : List Int} {i : Nat} {v : Int} (h : i + 4 ≤ l.length) : ∀ k, k ≤ 4 → ∀ j, (stW l i v k).getD j 0 = if i ≤ j ∧ j < i + k then byK v (j - i) else l.getD j 0
  | 0, _, j => by rw [if_neg (by omega)]; rfl
  | k + 1, hk, j => by
    unfold stW
    rw [setL_get (by rw [stW_length h k (by omega)]; omega), stW_get h k (by omega) j]
    by_cases h1 : j = i + k
    · subst h1; rw [if_pos rfl, if_pos (by omega)]; congr 1; omega
    · rw [if_neg h1]
      by_cases h2 : i ≤ j ∧ j < i + k
      · rw [if_pos h2, if_pos (by omega)]
      · rw [if_neg h2, if_neg (by omega)]
theorem byK_range (v : Int) (k : Nat) : 0 ≤ byK v k ∧ byK v k < 256 := by unfold byK; omega
theorem getW_setW {l : List Int} {i : Nat} {v : Int} (h : i + 4 ≤ l.length) (hv : I32 v) : getW (setW l i v) i = v := by
  unfold getW setW
  rw [stW_get h 4 (by decide), stW_get h 4 (by decide), stW_get h 4 (by decide), stW_get h 4 (by decide)]
  rw [if_pos (by omega), if_pos (by omega), if_pos (by omega), if_pos (by omega)]
  rw [show i - i = 0 by omega, show i + 1 - i = 1 by omega, show i + 2 - i = 2 by omega, show i + 3 - i = 3 by omega]
  have e : Uw v = byK v 0 + 256 * byK v 1 + 65536 * byK v 2 + 16777216 * byK v 3 := by
    have := Uw_lo v
    have := Uw_hi v
    unfold byK
    have p0 : (256 : Int) ^ 0 = 1 := rfl
    have p1 : (256 : Int) ^ 1 = 256 := rfl
    have p2 : (256 : Int) ^ 2 = 65536 := rfl
    have p3 : (256 : Int) ^ 3 = 16777216 := rfl
    rw [p0, p1, p2, p3]; omega
  rw [← e]
  rw [Wd_Uw, Wd_of hv]
theorem setW_bytes {l : List Int} {i : Nat} {v : Int} (h : i + 4 ≤ l.length) (hl : ∀ b ∈ l, 0 ≤ b ∧ b < 256) : ∀ b ∈ setW l i v, 0 ≤ b ∧ b < 256 := by
  intro b hb
  obtain ⟨j, hj, rfl⟩ := List.mem_iff_getElem.1 hb
  have hlen : (setW l i v).length = l.length := stW_length h 4 (by decide)
  have e : (setW l i v)[j] = (setW l i v).getD j 0 := by simp [hj]
  rw [e]
  show 0 ≤ (stW l i v 4).getD j 0 ∧ _
  unfold setW
  rw [stW_get h 4 (by decide)]
  split
  · exact byK_range _ _
  · have hj' : j < l.length := by omega
    have : l.getD j 0 = l[j] := by simp [hj']
    rw [this]; exact hl _ (List.getElem_mem _)
end Go.Proofs

namespace Go.Proofs
open Go Go.Sx
set_option maxRecDepth 10000
structure Ram where
  l : List Int
  lo : 1024 ≤ l.length
  hi : l.length ≤ 65536
  al : l.length % 4 = 0
  byt : ∀ b ∈ l, 0 ≤ b ∧ b < 256
theorem Ram.ext {m m' : Ram} (h : m.l = m'.l) : m = m' := by cases m; cases m'; cases h; rfl
def wBad (m : Ram) (a : Int) : Bool := spanBad m.l.length (wAt a) 4
theorem wBad_nat {m : Ram} {a : Int} (h : wBad m a = false) : (ofAt (wAt a)).toNat + 4 ≤ m.l.length := by
  unfold wBad spanBad at h
  have := m.lo
  by_cases h' : ofAt (wAt a) ≥ m.l.length
  · simp [h'] at h
  · simp [h'] at h; omega
def Ram.word (m : Ram) (a : Int) : Int := bif wBad m a then 0 else getW m.l (ofAt (wAt a)).toNat
def Ram.err (m : Ram) (a : Int) : Int := bif wBad m a then 4 else 0
def Ram.set (m : Ram) (a v : Int) : Ram := match h : wBad m a with
  | true => m
  | false => ⟨setW m.l (ofAt (wAt a)).toNat v, by rw [show (setW m.l (ofAt (wAt a)).toNat v).length = m.l.length from stW_length (wBad_nat h) 4 (by decide)]; exact m.lo,
      by rw [show (setW m.l (ofAt (wAt a)).toNat v).length = m.l.length from stW_length (wBad_nat h) 4 (by decide)]; exact m.hi,
      by rw [show (setW m.l (ofAt (wAt a)).toNat v).length = m.l.length from stW_length (wBad_nat h) 4 (by decide)]; exact m.al, setW_bytes (wBad_nat h) m.byt⟩
theorem set_bad {m : Ram} {a : Int} (h : wBad m a = true) (v : Int) : m.set a v = m := by unfold Ram.set; split <;> simp_all
theorem set_ok {m : Ram} {a : Int} (h : wBad m a = false) (v : Int) : (m.set a v).l = setW m.l (ofAt (wAt a)).toNat v := by unfold Ram.set; split <;> simp_all
theorem set_len (m : Ram) (a v : Int) : (m.set a v).l.length = m.l.length := by
  cases h : wBad m a with
  | true => rw [set_bad h]
  | false => rw [set_ok h]; exact stW_length (wBad_nat h) 4 (by decide)
theorem set_wBad (m : Ram) (a v b : Int) : wBad (m.set a v) b = wBad m b := by unfold wBad; rw [set_len]
theorem set_err (m : Ram) (a v b : Int) : (m.set a v).err b = m.err b := by unfold Ram.err; rw [set_wBad]
theorem I32_Wd (n : Int) : I32 (Wd n) := by unfold I32 Wd; omega
theorem I32_wrap (n : Int) : I32 (IntKind.i32.wrap n) := by rw [wrapW]; exact I32_Wd n
theorem word_I32 (m : Ram) (a : Int) : I32 (m.word a) := by
  unfold Ram.word; cases wBad m a
  · exact I32_Wd _
  · unfold I32; simp
theorem Word_t (m : Ram) (a : Int) (ha : I32 a) : Con Try.prog f_mem_Mem_Word [.s (.loc 0 0), .s (.int .i32 a)] [mBox m.l.length, mOwn m.l]
    (.ret (.tup [.s (.int .i32 (m.word a)), .s (.int .i64 (m.err a))]) [mBox m.l.length, mOwn m.l]) := by
  intro K hK
  have h0 := m.lo
  replace hK : K _ _ := hK
  refine Word_c m.l a m.hi ha (by omega) m.byt K ⟨fun h => ?_, fun h => ?_⟩ <;> (show K _ _) <;> simpa [Ram.word, Ram.err, wBad, h] using hK
theorem SetWord_t (m : Ram) (a v : Int) (ha : I32 a) : Con Try.prog f_mem_Mem_SetWord [.s (.loc 0 0), .s (.int .i32 a), .s (.int .i32 v)] [mBox m.l.length, mOwn m.l]
    (.ret (.t (.s (.int .i64 (m.err a)))) [mBox (m.set a v).l.length, mOwn (m.set a v).l]) := by
  intro K hK
  have h0 := m.lo
  have hl := set_len m a v
  replace hK : K _ _ := hK
  refine SetWord_c m.l a v m.hi ha (by omega) K ⟨fun h => ?_, fun h => ?_⟩
  · have : wBad m a = true := h
    rw [set_bad this] at hK
    show K _ _
    simpa [Ram.err, this] using hK
  · have h' : wBad m a = false := h
    rw [hl] at hK
    have e := set_ok h' v
    rw [mOwn, hl, e] at hK
    show K _ _
    simpa [Ram.err, h'] using hK
noncomputable abbrev eWordT : Ent := .st (conS (P := Try.prog) (f := f_mem_Mem_Word) fun cargs σ0 => match cargs, σ0 with
  | [.s (.loc 0 0), .s (.int .i32 a)], [.blk 65 [.sl 1 0 n n'], .own 5 1 c xs] => some ⟨.ex Ram fun m => .ask (n = m.l.length ∧ n' = m.l.length ∧ c = m.l.length ∧ xs = bytesI m.l ∧ I32 a)
      (.ret (.tup [.s (.int .i32 (m.word a)), .s (.int .i64 (m.err a))]) [mBox m.l.length, mOwn m.l]), fun K h => by
      obtain ⟨m, ⟨e1, e2, e3, e4, h1⟩, h⟩ := h
      subst e1; subst e2; subst e3; subst e4
      exact Word_t m a h1 K h⟩
  | _, _ => none)
noncomputable abbrev eSetWordT : Ent := .st (conS (P := Try.prog) (f := f_mem_Mem_SetWord) fun cargs σ0 => match cargs, σ0 with
  | [.s (.loc 0 0), .s (.int .i32 a), .s (.int .i32 v)], [.blk 65 [.sl 1 0 n n'], .own 5 1 c xs] => some ⟨.ex Ram fun m => .ask (n = m.l.length ∧ n' = m.l.length ∧ c = m.l.length ∧ xs = bytesI m.l ∧ I32 a)
      (.ret (.t (.s (.int .i64 (m.err a)))) [mBox (m.set a v).l.length, mOwn (m.set a v).l]), fun K h => by
      obtain ⟨m, ⟨e1, e2, e3, e4, h1⟩, h⟩ := h
      subst e1; subst e2; subst e3; subst e4
      exact SetWord_t m a v h1 K h⟩
  | _, _ => none)
noncomputable abbrev eSizeT : Ent := .st (conS (P := Try.prog) (f := f_mem_Mem_Size) fun cargs σ0 => match cargs, σ0 with
  | [.s (.loc 0 0)], [.blk 65 [.sl 1 0 n n'], .own 5 1 c xs] => some ⟨.ret (.t (.s (.int .i64 (n : Int)))) [.blk 65 [.sl 1 0 n n'], .own 5 1 c xs], fun K h => Size_c n n' c xs K h⟩
  | _, _ => none)
end Go.Proofs

namespace Go.Proofs
open Go Go.Sx
set_option maxRecDepth 10000
theorem one_seg {ys : List Value} {a b : Nat} (h : ∀ u ∈ ys, u.oneCell' = true) : ∀ u ∈ seg ys a b, u.oneCell' = true := fun u hu => h u (List.mem_of_mem_drop (List.mem_of_mem_take hu))
theorem put_c (l x : List Int) (cap cb : Nat) (i : Nat) (hi : i + x.length ≤ l.length) (hn : l.length ≤ 65536) (hc : l.length ≤ cap) : Con Try.prog f_r03_put [.s (.sl 0 0 l.length cap), .s (.int .i64 (i : Int)), .s (.sl 1 0 x.length cb)] [.view (bytesI l), .own 5 1 cb (bytesI x)]
    (.all Nat (fun c => l.length ≤ c) fun c => .ret (.t (.s (.sl 2 0 l.length c))) [.view (bytesI l), .view (bytesI x), .own 5 1 c (bytesI (setL l i x))]) := by
  intro K hK
  refine enter fn_r03_put rfl nt_r03_put rfl rfl (fun φ w0 β0 F => ?_)
  refine c_freeze 1 rfl rfl ?_
  refine c_run tt_ok (ct := []) trivial k_r03_put [] 60 (by kernel_rfl) ?_
  refine ⟨0, i, ⟨_, _, rfl, rfl, rfl, rfl⟩, ⟨by omega, by omega⟩, ?_⟩
  refine ⟨⟨by simp [seg]; omega, one_seg (one_seg (bytesI_one _)), by simp only [maxLen]; omega, by omega⟩, fun c1 h1 h1' => ?_⟩
  refine ⟨⟨rfl, by simp [seg]; omega, by simp, one_seg (bytesI_one _), by simp only [maxLen]; omega, by omega⟩, fun c2 h2 h2' => ?_⟩
  refine ⟨i + x.length, l.length, ⟨_, _, rfl, rfl, ?_, rfl⟩, ⟨by omega, by omega⟩, ?_⟩
  · show IntKind.i64.wrap ((i : Int) + (x.length : Int)) = _
    rw [wrap64 (by omega) (by omega)]; omega
  refine ⟨⟨rfl, by simp [seg]; omega, by simp [seg], one_seg (one_seg (bytesI_one _)), by simp only [maxLen]; omega, by omega⟩, fun c3 h3 h3' => ?_⟩
  refine fin_k tt_ok (rs := rs_r03_put) rfl rfl (hK c3 (by omega)) [0, 1, 7] ?_ ?_ rfl rfl rfl rfl
  · rw [show i - 0 + x.length + (l.length - (i + x.length)) = l.length by omega]; rfl
  · have e : seg (seg (bytesI l) (0 + 0 * 1) ((i - 0) * 1)) 0 ((i - 0) * 1) ++ seg (bytesI x) 0 (x.length * 1) ++ seg (seg (bytesI l) (0 + (i + x.length) * 1) ((l.length - (i + x.length)) * 1)) 0 ((l.length - (i + x.length)) * 1) = bytesI (setL l i x) := by
      simp only [Nat.zero_mul, Nat.mul_one, Nat.add_zero, Nat.zero_add, Nat.sub_zero, seg_bytesI, List.drop_zero, setL, bytesI_append, List.take_take, Nat.min_self, List.take_length]
      rw [List.take_of_length_le (l := List.drop (i + x.length) l) (by simp)]
    simp only [pickL, List.getElem?_cons_zero, List.getElem?_cons_succ]
    rw [e]; rfl
noncomputable abbrev ePut : Ent := .st (conS (P := Try.prog) (f := f_r03_put) fun cargs σ0 => match cargs, σ0 with
  | [.s (.sl 0 0 n cap), .s (.int .i64 i), .s (.sl 1 0 k cb)], [.view ys, .own 5 1 cb' xs] => some ⟨.ex (List Int × List Int × Nat) fun p => .ask (ys = bytesI p.1 ∧ n = p.1.length ∧ xs = bytesI p.2.1 ∧ k = p.2.1.length ∧ cb' = cb ∧ i = (p.2.2 : Int) ∧ p.2.2 + p.2.1.length ≤ p.1.length ∧ p.1.length ≤ 65536 ∧ p.1.length ≤ cap)
      (.all Nat (fun c => p.1.length ≤ c) fun c => .ret (.t (.s (.sl 2 0 p.1.length c))) [.view (bytesI p.1), .view (bytesI p.2.1), .own 5 1 c (bytesI (setL p.1 p.2.2 p.2.1))]), fun K h => by
      obtain ⟨⟨l, x, j⟩, ⟨e1, e2, e3, e4, e5, e6, h1, h2, h3⟩, h⟩ := h
      subst e1; subst e2; subst e3; subst e4; subst e5; subst e6
      exact put_c l x cap cb' j h1 h2 h3 K h⟩
  | _, _ => none)
noncomputable abbrev eFour : Ent := .st (conS (P := Try.prog) (f := f_r03_Four) fun cargs σ0 => match cargs, σ0 with
  | [.s (.int .i32 v)], [] => some ⟨.ret (.t (.s (.sl 0 0 4 4))) [.own 5 1 4 (bytesI [byK v 0, byK v 1, byK v 2, byK v 3])], fun K h => Four_c v K h⟩
  | _, _ => none)
noncomputable abbrev ctRS : CT := [(f_r03_Index, .pure spIndex), (f_r03_Lies, .pure spLies), (f_r03_put, ePut), (f_r03_Four, eFour)]
theorem ctRS_ok : CTok Try.prog ctRS := ⟨ceIndex, ceLies, con_ok cal_r03_put _, con_ok cal_r03_Four _, trivial⟩
theorem lies_wBad {m : Ram} {a : Int} (ha : I32 a) : liesB m.l.length a 1 = !wBad m a := by
  rw [lies_span _ _ _ (by decide)]
  congr 1
  have := m.al
  have := m.lo
  unfold wBad spanBad
  unfold I32 at ha
  have e1 : (decide (ofAt a ≥ m.l.length)) = decide (ofAt (wAt a) ≥ m.l.length) := by
    congr 1
    unfold ofAt wAt
    apply propext; constructor <;> intro h <;> omega
  rw [e1]
  cases hd : decide (ofAt (wAt a) ≥ m.l.length)
  · simp only [cond_false]
    congr 1
    have := of_decide_eq_false hd
    unfold ofAt wAt at *
    apply propext; constructor <;> intro h <;> omega
  · rfl
theorem setW_four {l : List Int} {i : Nat} (v : Int) (h : i + 4 ≤ l.length) : setL l i [byK v 0, byK v 1, byK v 2, byK v 3] = setW l i v := by
  apply List.ext_getElem?
  intro j
  have hl : (setW l i v).length = l.length := stW_length h 4 (by decide)
  have hl' : (setL l i [byK v 0, byK v 1, byK v 2, byK v 3]).length = l.length := setL_length (by simpa using h)
  rcases Nat.lt_or_ge j l.length with hj | hj
  · have e := stW_get (v := v) h 4 (by decide) j
    rw [show stW l i v 4 = setW l i v from rfl] at e
    have e2 : (setL l i [byK v 0, byK v 1, byK v 2, byK v 3]).getD j 0 = if i ≤ j ∧ j < i + 4 then byK v (j - i) else l.getD j 0 := by
      unfold setL
      simp only [List.getD_eq_getElem?_getD]
      by_cases h1 : j < i
      · rw [List.append_assoc, List.getElem?_append_left (by simp; omega), List.getElem?_take_of_lt h1, if_neg (by omega)]
      · by_cases h2 : j < i + 4
        · rw [List.append_assoc, List.getElem?_append_right (by simp; omega), List.getElem?_append_left (by simp; omega), if_pos (by omega)]
          have hm : min i l.length = i := by omega
          simp only [List.length_take, hm]
          obtain ⟨k, hk, rfl⟩ : ∃ k, k < 4 ∧ j = i + k := ⟨j - i, by omega, by omega⟩
          rw [Nat.add_sub_cancel_left]
          match k, hk with
          | 0, _ => rfl
          | 1, _ => rfl
          | 2, _ => rfl
          | 3, _ => rfl
        · rw [List.getElem?_append_right (by simp; omega), if_neg (by omega)]
          simp only [List.length_append, List.length_take, List.length_cons, List.length_nil, List.getElem?_drop]
          congr 2
          omega
    rw [← e] at e2
    simpa [List.getD_eq_getElem?_getD, hl, hl', hj] using e2
  · rw [List.getElem?_eq_none (by omega), List.getElem?_eq_none (by omega)]
theorem RSetWord_t (m : Ram) (cap : Nat) (a v : Int) (ha : I32 a) (hc : m.l.length ≤ cap) : Con Try.prog f_r03_SetWord [.s (.sl 0 0 m.l.length cap), .s (.int .i32 a), .s (.int .i32 v)] [.view (bytesI m.l)]
    (.all Nat (fun c => m.l.length ≤ c) fun c => .ret (.tup [.s (.sl 1 0 (m.set a v).l.length c), .s (.int .i64 (m.err a))]) [.view (bytesI m.l), .view (bytesI (m.set a v).l)]) := by
  intro K hK
  have hn := m.hi
  have h0 := m.lo
  refine enter fn_r03_SetWord rfl nt_r03_SetWord rfl rfl (fun φ w0 β0 F => ?_)
  refine c_run tt_ok ctRS_ok k_r03_SetWord [] 60 (by kernel_rfl) ?_
  refine ⟨⟨by omega, by omega, ha⟩, fun h => ?_, fun h => ?_⟩
  · have hb : wBad m a = true := by simpa [lies_wBad ha] using h
    refine WpE.into (aliasSlot 6 0 0 m.l.length cap rfl rfl) ?_
    have h1 := hK cap hc
    rw [set_bad hb] at h1
    refine fin_k tt_ok (rs := rs_r03_SetWord) rfl rfl h1 [0, 1] ?_ ?_ rfl rfl rfl rfl
    · rw [show m.err a = 4 by simp [Ram.err, hb]]; rfl
    · have e : seg (bytesI m.l) 0 m.l.length = bytesI m.l := by rw [seg_bytesI, List.drop_zero, List.take_length]
      rw [e]; rfl
  · have hb : wBad m a = false := by simpa [lies_wBad ha] using h
    have hw := wBad_nat hb
    have hi := spanBad_i ha (k := 1) (n := m.l.length) (by have := lies_span m.l.length a 1 (by decide); rw [lies_wBad ha, hb] at this; simpa using this.symm)
    have ei : IntKind.i64.wrap (ofAt a - (ofAt a).tmod 4) = ((ofAt (wAt a)).toNat : Int) := by
      rw [(tmod4 _).1 hi.1, wrap64 (by omega) (by omega)]; unfold ofAt wAt at *; omega
    refine ⟨ha, (m.l, [byK v 0, byK v 1, byK v 2, byK v 3], (ofAt (wAt a)).toNat), ⟨rfl, rfl, rfl, rfl, rfl, ei, hw, hn, hc⟩, fun c h1 => ?_⟩
    show WpE _ _ _ _ _
    refine e_freeze 2 rfl rfl ?_
    have h2 := hK c h1
    rw [set_len, set_ok hb] at h2
    refine fin_k tt_ok (rs := rs_r03_SetWord) rfl rfl h2 [0, 2] ?_ ?_ rfl rfl rfl rfl
    · rw [show m.err a = 0 by simp [Ram.err, hb]]; rfl
    · have e : setL m.l (ofAt (wAt a)).toNat [byK v 0, byK v 1, byK v 2, byK v 3] = setW m.l (ofAt (wAt a)).toNat v := setW_four v hw
      simp only [pickL, List.getElem?_cons_zero, List.getElem?_cons_succ]
      rw [e]; rfl
theorem RWord_t (m : Ram) (cap : Nat) (a : Int) (ha : I32 a) : Con Try.prog f_r03_Word [.s (.sl 0 0 m.l.length cap), .s (.int .i32 a)] [.view (bytesI m.l)]
    (.ret (.tup [.s (.int .i32 (m.word a)), .s (.int .i64 (m.err a))]) [.view (bytesI m.l)]) := by
  intro K hK
  replace hK : K _ _ := hK
  refine RWord_c m.l cap a m.hi m.al ha m.byt K ⟨fun h => ?_, fun h => ?_⟩
  · have hb : wBad m a = false := by simpa [lies_wBad ha] using h
    show K _ _
    simpa [Ram.word, Ram.err, hb] using hK
  · have hb : wBad m a = true := by simpa [lies_wBad ha] using h
    show K _ _
    simpa [Ram.word, Ram.err, hb] using hK
noncomputable abbrev eRWordT : Ent := .st (conS (P := Try.prog) (f := f_r03_Word) fun cargs σ0 => match cargs, σ0 with
  | [.s (.sl 0 0 n cap), .s (.int .i32 a)], [.view xs] => some ⟨.ex Ram fun m => .ask (n = m.l.length ∧ xs = bytesI m.l ∧ I32 a)
      (.ret (.tup [.s (.int .i32 (m.word a)), .s (.int .i64 (m.err a))]) [.view (bytesI m.l)]), fun K h => by
      obtain ⟨m, ⟨e1, e2, h1⟩, h⟩ := h
      subst e1; subst e2
      exact RWord_t m cap a h1 K h⟩
  | _, _ => none)
noncomputable abbrev eRSetWordT : Ent := .st (conS (P := Try.prog) (f := f_r03_SetWord) fun cargs σ0 => match cargs, σ0 with
  | [.s (.sl 0 0 n cap), .s (.int .i32 a), .s (.int .i32 v)], [.view xs] => some ⟨.ex Ram fun m => .ask (n = m.l.length ∧ xs = bytesI m.l ∧ I32 a ∧ m.l.length ≤ cap)
      (.all Nat (fun c => m.l.length ≤ c) fun c => .ret (.tup [.s (.sl 1 0 (m.set a v).l.length c), .s (.int .i64 (m.err a))]) [.view (bytesI m.l), .view (bytesI (m.set a v).l)]), fun K h => by
      obtain ⟨m, ⟨e1, e2, h1, h2⟩, h⟩ := h
      subst e1; subst e2
      exact RSetWord_t m cap a v h1 h2 K h⟩
  | _, _ => none)
end Go.Proofs

namespace Go.Proofs
open Go Go.Sx
set_option maxRecDepth 10000
structure Mach where
  k : Core
  e : Int
  m : Ram
abbrev mBox2 (n : Nat) : Ch := .blk 65 [.sl 2 0 n n]
def Mach.chunks : Mach → List Ch
  | ⟨k, e, m⟩ => [.blk 77 (.loc 1 0 :: .int .i64 e :: k.sv), mBox2 m.l.length, mOwn m.l]
def eOr (e e' : Int) : Int := bif e == 0 then e' else e
def Mach.load : Mach → Int → Mach
  | ⟨k, e, m⟩, a => ⟨k, eOr e (m.err a), m⟩
def Mach.store : Mach → Int → Int → Mach
  | ⟨k, e, m⟩, a, v => ⟨k, eOr e (m.err a), bif e == 0 then m.set a v else m⟩
noncomputable abbrev ctMW : CT := [(f_mem_Mem_Word, eWordT), (f_mem_Mem_SetWord, eSetWordT)]
theorem ctMW_ok : CTok Try.prog ctMW := ⟨con_ok cal_mem_Mem_Word _, con_ok cal_mem_Mem_SetWord _, trivial⟩
theorem load_c (x : Mach) (a : Int) (ha : I32 a) : Con Try.prog f_alt_words_load [.s (.loc 0 0), .s (.int .i32 a)] x.chunks (.ret (.t (.s (.int .i32 (x.m.word a)))) (x.load a).chunks) := by
  obtain ⟨k, e, m⟩ := x
  intro K hK
  refine enter fn_alt_words_load rfl nt_alt_words_load rfl rfl (fun φ w0 β0 F => ?_)
  refine c_run tt_ok ctMW_ok k_alt_words_load [] 60 (by kernel_rfl) ?_
  refine ⟨m, ⟨rfl, rfl, rfl, rfl, ha⟩, fun h => ?_, fun h => ?_⟩
  · rw [show Mach.load ⟨k, e, m⟩ a = ⟨k, m.err a, m⟩ by simp [Mach.load, eOr, h]] at hK
    exact fin_k tt_ok (rs := rs_alt_words_load) rfl rfl hK [0, 1, 2] rfl rfl rfl rfl rfl rfl
  · rw [show Mach.load ⟨k, e, m⟩ a = ⟨k, e, m⟩ by simp [Mach.load, eOr, h]] at hK
    exact fin_k tt_ok (rs := rs_alt_words_load) rfl rfl hK [0, 1, 2] rfl rfl rfl rfl rfl rfl
theorem store_c (x : Mach) (a v : Int) (ha : I32 a) : Con Try.prog f_alt_words_store [.s (.loc 0 0), .s (.int .i32 a), .s (.int .i32 v)] x.chunks (.ret (.tup []) (x.store a v).chunks) := by
  obtain ⟨k, e, m⟩ := x
  intro K hK
  refine enter fn_alt_words_store rfl nt_alt_words_store rfl rfl (fun φ w0 β0 F => ?_)
  refine c_run tt_ok ctMW_ok k_alt_words_store [] 60 (by kernel_rfl) ?_
  refine ⟨fun h => ⟨m, ⟨rfl, rfl, rfl, rfl, ha⟩, ?_⟩, fun h => ?_⟩
  · rw [show Mach.store ⟨k, e, m⟩ a v = ⟨k, m.err a, m.set a v⟩ by simp [Mach.store, eOr, h]] at hK
    exact fin_ke tt_ok (rs := rs_alt_words_store) rfl rfl hK [0, 1, 2] rfl rfl rfl rfl rfl rfl
  · rw [show Mach.store ⟨k, e, m⟩ a v = ⟨k, e, m⟩ by simp [Mach.store, eOr, h]] at hK
    exact fin_ke tt_ok (rs := rs_alt_words_store) rfl rfl hK [0, 1, 2] rfl rfl rfl rfl rfl rfl
end Go.Proofs

namespace Go.Proofs
open Go Go.Sx
set_option maxRecDepth 10000
noncomputable abbrev eLoad : Ent := .st (conS (P := Try.prog) (f := f_alt_words_load) fun cargs σ0 => match cargs, σ0 with
  | [.s (.loc 0 0), .s (.int .i32 a)], [.blk 77 (.loc 1 0 :: .int .i64 e :: cs), .blk 65 [.sl 2 0 n n'], .own 5 1 c xs] => withCore cs fun k hk => some ⟨.ex Ram fun m => .ask (n = m.l.length ∧ n' = m.l.length ∧ c = m.l.length ∧ xs = bytesI m.l ∧ I32 a)
      (.ret (.t (.s (.int .i32 (m.word a)))) ((Mach.mk k e m).load a).chunks), fun K h => by
      obtain ⟨m, ⟨e1, e2, e3, e4, h1⟩, h⟩ := h
      subst e1; subst e2; subst e3; subst e4; subst hk
      exact load_c ⟨k, e, m⟩ a h1 K h⟩
  | _, _ => none)
noncomputable abbrev eStore : Ent := .st (conS (P := Try.prog) (f := f_alt_words_store) fun cargs σ0 => match cargs, σ0 with
  | [.s (.loc 0 0), .s (.int .i32 a), .s (.int .i32 v)], [.blk 77 (.loc 1 0 :: .int .i64 e :: cs), .blk 65 [.sl 2 0 n n'], .own 5 1 c xs] => withCore cs fun k hk => some ⟨.ex Ram fun m => .ask (n = m.l.length ∧ n' = m.l.length ∧ c = m.l.length ∧ xs = bytesI m.l ∧ I32 a)
      (.ret (.tup []) ((Mach.mk k e m).store a v).chunks), fun K h => by
      obtain ⟨m, ⟨e1, e2, e3, e4, h1⟩, h⟩ := h
      subst e1; subst e2; subst e3; subst e4; subst hk
      exact store_c ⟨k, e, m⟩ a v h1 K h⟩
  | _, _ => none)
/-- Where the state lies; what the process is called. -/
def stAt (w : Int) : Int := IntKind.i32.wrap (w + -12)
def ownAt (w p : Int) : Int := IntKind.i32.wrap (w + IntKind.i32.wrap p)
theorem state_c (x : Mach) : Con Try.prog f_alt_machine_state [.s (.loc 0 0)] x.chunks (.ret (.t (.s (.int .i32 (stAt x.k.wptr)))) x.chunks) := by
  obtain ⟨k, e, m⟩ := x
  intro K hK
  refine enter fn_alt_machine_state rfl nt_alt_machine_state rfl rfl (fun φ w0 β0 F => ?_)
  refine c_run tt_ok (ct := []) trivial k_alt_machine_state [] 60 (by kernel_rfl) ?_
  exact fin_k tt_ok (rs := rs_alt_machine_state) rfl rfl hK [0, 1, 2] rfl rfl rfl rfl rfl rfl
theorem own_c (x : Mach) : Con Try.prog f_alt_machine_own [.s (.loc 0 0)] x.chunks (.ret (.t (.s (.int .i32 (ownAt x.k.wptr x.k.pri)))) x.chunks) := by
  obtain ⟨k, e, m⟩ := x
  intro K hK
  refine enter fn_alt_machine_own rfl nt_alt_machine_own rfl rfl (fun φ w0 β0 F => ?_)
  refine c_run tt_ok (ct := []) trivial k_alt_machine_own [] 60 (by kernel_rfl) ?_
  exact fin_k tt_ok (rs := rs_alt_machine_own) rfl rfl hK [0, 1, 2] rfl rfl rfl rfl rfl rfl
noncomputable abbrev eState : Ent := .st (conS (P := Try.prog) (f := f_alt_machine_state) fun cargs σ0 => match cargs, σ0 with
  | [.s (.loc 0 0)], [.blk 77 (.loc 1 0 :: .int .i64 e :: cs), .blk 65 [.sl 2 0 n n'], .own 5 1 c xs] => withCore cs fun k hk => some ⟨.ex Ram fun m => .ask (n = m.l.length ∧ n' = m.l.length ∧ c = m.l.length ∧ xs = bytesI m.l)
      (.ret (.t (.s (.int .i32 (stAt k.wptr)))) (Mach.mk k e m).chunks), fun K h => by
      obtain ⟨m, ⟨e1, e2, e3, e4⟩, h⟩ := h
      subst e1; subst e2; subst e3; subst e4; subst hk
      exact state_c ⟨k, e, m⟩ K h⟩
  | _, _ => none)
noncomputable abbrev eOwn : Ent := .st (conS (P := Try.prog) (f := f_alt_machine_own) fun cargs σ0 => match cargs, σ0 with
  | [.s (.loc 0 0)], [.blk 77 (.loc 1 0 :: .int .i64 e :: cs), .blk 65 [.sl 2 0 n n'], .own 5 1 c xs] => withCore cs fun k hk => some ⟨.ex Ram fun m => .ask (n = m.l.length ∧ n' = m.l.length ∧ c = m.l.length ∧ xs = bytesI m.l)
      (.ret (.t (.s (.int .i32 (ownAt k.wptr k.pri)))) (Mach.mk k e m).chunks), fun K h => by
      obtain ⟨m, ⟨e1, e2, e3, e4⟩, h⟩ := h
      subst e1; subst e2; subst e3; subst e4; subst hk
      exact own_c ⟨k, e, m⟩ K h⟩
  | _, _ => none)
noncomputable abbrev ctMA : CT := [(f_alt_words_load, eLoad), (f_alt_words_store, eStore), (f_alt_machine_state, eState), (f_alt_machine_own, eOwn)]
theorem ctMA_ok : CTok Try.prog ctMA := ⟨con_ok cal_alt_words_load _, con_ok cal_alt_words_store _, con_ok cal_alt_machine_state _, con_ok cal_alt_machine_own _, trivial⟩
def Mach.alt : Mach → Mach
  | ⟨k, e, m⟩ => Mach.store ⟨k, e, m⟩ (stAt k.wptr) (-2147483647)
theorem alt_c (x : Mach) : Con Try.prog f_alt_machine_alt [.s (.loc 0 0)] x.chunks (.ret (.tup []) x.alt.chunks) := by
  obtain ⟨k, e, m⟩ := x
  intro K hK
  refine enter fn_alt_machine_alt rfl nt_alt_machine_alt rfl rfl (fun φ w0 β0 F => ?_)
  refine c_run tt_ok ctMA_ok k_alt_machine_alt [] 60 (by kernel_rfl) ?_
  refine ⟨m, ⟨rfl, rfl, rfl, rfl⟩, m, ⟨rfl, rfl, rfl, rfl, I32_wrap _⟩, ?_⟩
  exact fin_ke tt_ok (rs := rs_alt_machine_alt) rfl rfl hK [0, 1, 2] rfl rfl rfl rfl rfl rfl
def emStore (e : Int) (m : Ram) (a v : Int) : Int × Ram := (eOr e (m.err a), bif e == 0 then m.set a v else m)
def Mach.of (k : Core) (y : Int × Ram) : Mach := ⟨k, y.1, y.2⟩
def enbsY (k : Core) (e : Int) (m : Ram) : Int × Ram := bif k.a != 0 then emStore e m (stAt k.wptr) (-2147483645) else (e, m)
def Mach.enbs : Mach → Mach
  | ⟨k, e, m⟩ => .of k (enbsY k e m)
theorem enbs_c (x : Mach) : Con Try.prog f_alt_machine_enbs [.s (.loc 0 0)] x.chunks (.ret (.tup []) x.enbs.chunks) := by
  obtain ⟨k, e, m⟩ := x
  intro K hK
  refine enter fn_alt_machine_enbs rfl nt_alt_machine_enbs rfl rfl (fun φ w0 β0 F => ?_)
  refine c_run tt_ok ctMA_ok k_alt_machine_enbs [] 60 (by kernel_rfl) ?_
  refine ⟨fun h => ?_, fun h => ?_⟩
  · rw [show Mach.enbs ⟨k, e, m⟩ = .of k (emStore e m (stAt k.wptr) (-2147483645)) by simp only [Mach.enbs, enbsY, h, cond_true]] at hK
    refine ⟨m, ⟨rfl, rfl, rfl, rfl⟩, m, ⟨rfl, rfl, rfl, rfl, I32_wrap _⟩, ?_⟩
    exact fin_ke tt_ok (rs := rs_alt_machine_enbs) rfl rfl hK [0, 1, 2] rfl rfl rfl rfl rfl rfl
  · rw [show Mach.enbs ⟨k, e, m⟩ = ⟨k, e, m⟩ by simp only [Mach.enbs, enbsY, h, cond_false, Mach.of]] at hK
    exact fin_ke tt_ok (rs := rs_alt_machine_enbs) rfl rfl hK [0, 1, 2] rfl rfl rfl rfl rfl rfl
def enbcY (k : Core) (e : Int) (m : Ram) : Int × Ram := bif k.a == 0 then (e, m) else bif m.word k.b == -2147483648 then emStore (eOr e (m.err k.b)) m k.b (ownAt k.wptr k.pri)
  else bif m.word k.b == ownAt k.wptr k.pri then (eOr e (m.err k.b), m) else emStore (eOr e (m.err k.b)) m (stAt k.wptr) (-2147483645)
def Mach.enbc : Mach → Mach
  | ⟨k, e, m⟩ => .of { k with b := k.c } (enbcY k e m)
theorem enbc_c (x : Mach) (hb : I32 x.k.b) : Con Try.prog f_alt_machine_enbc [.s (.loc 0 0)] x.chunks (.ret (.tup []) x.enbc.chunks) := by
  obtain ⟨k, e, m⟩ := x
  intro K hK
  refine enter fn_alt_machine_enbc rfl nt_alt_machine_enbc rfl rfl (fun φ w0 β0 F => ?_)
  refine c_run tt_ok ctMA_ok k_alt_machine_enbc [] 60 (by kernel_rfl) ?_
  refine ⟨fun h => ?_, fun h => ⟨m, ⟨rfl, rfl, rfl, rfl, hb⟩, fun h2 => ⟨m, ⟨rfl, rfl, rfl, rfl⟩, m, ⟨rfl, rfl, rfl, rfl, hb⟩, ?_⟩, fun h2 => ⟨m, ⟨rfl, rfl, rfl, rfl⟩, fun h3 => ?_, fun h3 => ⟨m, ⟨rfl, rfl, rfl, rfl⟩, m, ⟨rfl, rfl, rfl, rfl, I32_wrap _⟩, ?_⟩⟩⟩⟩
  · rw [show Mach.enbc ⟨k, e, m⟩ = .of { k with b := k.c } (e, m) by simp only [Mach.enbc, enbcY, h, cond_true]] at hK
    exact fin_k tt_ok (rs := rs_alt_machine_enbc) rfl rfl hK [0, 1, 2] rfl rfl rfl rfl rfl rfl
  · rw [show Mach.enbc ⟨k, e, m⟩ = .of { k with b := k.c } (emStore (eOr e (m.err k.b)) m k.b (ownAt k.wptr k.pri)) by simp only [Mach.enbc, enbcY, h, h2, cond_true, cond_false]] at hK
    exact fin_ke tt_ok (rs := rs_alt_machine_enbc) rfl rfl hK [0, 1, 2] rfl rfl rfl rfl rfl rfl
  · rw [show Mach.enbc ⟨k, e, m⟩ = .of { k with b := k.c } (eOr e (m.err k.b), m) by simp only [Mach.enbc, enbcY, h, h2, h3, cond_true, cond_false]] at hK
    exact fin_ke tt_ok (rs := rs_alt_machine_enbc) rfl rfl hK [0, 1, 2] rfl rfl rfl rfl rfl rfl
  · rw [show Mach.enbc ⟨k, e, m⟩ = .of { k with b := k.c } (emStore (eOr e (m.err k.b)) m (stAt k.wptr) (-2147483645)) by simp only [Mach.enbc, enbcY, h, h2, h3, cond_false]] at hK
    exact fin_ke tt_ok (rs := rs_alt_machine_enbc) rfl rfl hK [0, 1, 2] rfl rfl rfl rfl rfl rfl
end Go.Proofs

namespace Go.Proofs
open Go Go.Sx
set_option maxRecDepth 10000
def chooseY (w : Int) (n : Int) (e : Int) (m : Ram) : Int × Ram := bif m.word w == -1 then emStore (eOr e (m.err w)) m w n else (eOr e (m.err w), m)
def Mach.choose : Mach → Int → Mach
  | ⟨k, e, m⟩, n => .of { k with a := bif m.word k.wptr == -1 then 1 else 0 } (chooseY k.wptr n e m)
theorem choose_c (x : Mach) (n : Int) (hw : I32 x.k.wptr) : Con Try.prog f_alt_machine_choose [.s (.loc 0 0), .s (.int .i32 n)] x.chunks (.ret (.tup []) (x.choose n).chunks) := by
  obtain ⟨k, e, m⟩ := x
  intro K hK
  refine enter fn_alt_machine_choose rfl nt_alt_machine_choose rfl rfl (fun φ w0 β0 F => ?_)
  refine c_run tt_ok ctMA_ok k_alt_machine_choose [] 60 (by kernel_rfl) ?_
  refine ⟨m, ⟨rfl, rfl, rfl, rfl, hw⟩, fun h => ⟨m, ⟨rfl, rfl, rfl, rfl, hw⟩, ?_⟩, fun h => ?_⟩
  · rw [show Mach.choose ⟨k, e, m⟩ n = .of { k with a := 1 } (emStore (eOr e (m.err k.wptr)) m k.wptr n) by simp only [Mach.choose, chooseY, h, cond_true]] at hK
    exact fin_ke tt_ok (rs := rs_alt_machine_choose) rfl rfl hK [0, 1, 2] rfl rfl rfl rfl rfl rfl
  · rw [show Mach.choose ⟨k, e, m⟩ n = .of { k with a := 0 } (eOr e (m.err k.wptr), m) by simp only [Mach.choose, chooseY, h, cond_false]] at hK
    exact fin_ke tt_ok (rs := rs_alt_machine_choose) rfl rfl hK [0, 1, 2] rfl rfl rfl rfl rfl rfl
noncomputable abbrev eChoose : Ent := .st (conS (P := Try.prog) (f := f_alt_machine_choose) fun cargs σ0 => match cargs, σ0 with
  | [.s (.loc 0 0), .s (.int .i32 v)], [.blk 77 (.loc 1 0 :: .int .i64 e :: cs), .blk 65 [.sl 2 0 n n'], .own 5 1 c xs] => withCore cs fun k hk => some ⟨.ex Ram fun m => .ask (n = m.l.length ∧ n' = m.l.length ∧ c = m.l.length ∧ xs = bytesI m.l ∧ I32 k.wptr)
      (.ret (.tup []) ((Mach.mk k e m).choose v).chunks), fun K h => by
      obtain ⟨m, ⟨e1, e2, e3, e4, h1⟩, h⟩ := h
      subst e1; subst e2; subst e3; subst e4; subst hk
      exact choose_c ⟨k, e, m⟩ v h1 K h⟩
  | _, _ => none)
noncomputable abbrev ctMC : CT := (f_alt_machine_choose, eChoose) :: ctMA
theorem ctMC_ok : CTok Try.prog ctMC := ⟨con_ok cal_alt_machine_choose _, ctMA_ok⟩
def Mach.diss : Mach → Mach
  | ⟨k, e, m⟩ => .of { k with a := bif k.b != 0 then (bif m.word k.wptr == -1 then 1 else 0) else 0, b := k.c } (bif k.b != 0 then chooseY k.wptr k.a e m else (e, m))
theorem diss_c (x : Mach) (hw : I32 x.k.wptr) : Con Try.prog f_alt_machine_diss [.s (.loc 0 0)] x.chunks (.ret (.tup []) x.diss.chunks) := by
  obtain ⟨k, e, m⟩ := x
  intro K hK
  refine enter fn_alt_machine_diss rfl nt_alt_machine_diss rfl rfl (fun φ w0 β0 F => ?_)
  refine c_run tt_ok ctMC_ok k_alt_machine_diss [] 60 (by kernel_rfl) ?_
  refine ⟨fun h => ⟨m, ⟨rfl, rfl, rfl, rfl, hw⟩, ?_⟩, fun h => ?_⟩
  · rw [show Mach.diss ⟨k, e, m⟩ = .of { k with a := bif m.word k.wptr == -1 then 1 else 0, b := k.c } (chooseY k.wptr k.a e m) by simp only [Mach.diss, h, cond_true]] at hK
    exact fin_ke tt_ok (rs := rs_alt_machine_diss) rfl rfl hK [0, 1, 2] rfl rfl rfl rfl rfl rfl
  · rw [show Mach.diss ⟨k, e, m⟩ = .of { k with a := 0, b := k.c } (e, m) by simp only [Mach.diss, h, cond_false]] at hK
    exact fin_ke tt_ok (rs := rs_alt_machine_diss) rfl rfl hK [0, 1, 2] rfl rfl rfl rfl rfl rfl
def discY (k : Core) (e : Int) (m : Ram) : Int × Ram := bif k.b == 0 then (e, m) else bif m.word k.c == ownAt k.wptr k.pri then emStore (eOr e (m.err k.c)) m k.c (-2147483648)
  else bif m.word k.c == -2147483648 then (eOr e (m.err k.c), m) else chooseY k.wptr k.a (eOr e (m.err k.c)) m
def discA (k : Core) (m : Ram) : Int := bif k.b == 0 then 0 else bif m.word k.c == ownAt k.wptr k.pri then 0 else bif m.word k.c == -2147483648 then 0 else bif m.word k.wptr == -1 then 1 else 0
def Mach.disc : Mach → Mach
  | ⟨k, e, m⟩ => .of { k with a := discA k m, b := 0, c := 0 } (discY k e m)
theorem disc_c (x : Mach) (hc : I32 x.k.c) (hw : I32 x.k.wptr) : Con Try.prog f_alt_machine_disc [.s (.loc 0 0)] x.chunks (.ret (.tup []) x.disc.chunks) := by
  obtain ⟨k, e, m⟩ := x
  intro K hK
  refine enter fn_alt_machine_disc rfl nt_alt_machine_disc rfl rfl (fun φ w0 β0 F => ?_)
  refine c_run tt_ok ctMC_ok k_alt_machine_disc [] 60 (by kernel_rfl) ?_
  refine ⟨fun h => ?_, fun h => ⟨m, ⟨rfl, rfl, rfl, rfl, hc⟩, m, ⟨rfl, rfl, rfl, rfl⟩, fun h2 => ⟨m, ⟨rfl, rfl, rfl, rfl, hc⟩, ?_⟩, fun h2 => ⟨fun h3 => ?_, fun h3 => ⟨m, ⟨rfl, rfl, rfl, rfl, hw⟩, ?_⟩⟩⟩⟩
  · rw [show Mach.disc ⟨k, e, m⟩ = .of { k with a := 0, b := 0, c := 0 } (e, m) by simp only [Mach.disc, discA, discY, h, cond_true]] at hK
    exact fin_k tt_ok (rs := rs_alt_machine_disc) rfl rfl hK [0, 1, 2] rfl rfl rfl rfl rfl rfl
  · rw [show Mach.disc ⟨k, e, m⟩ = .of { k with a := 0, b := 0, c := 0 } (emStore (eOr e (m.err k.c)) m k.c (-2147483648)) by simp only [Mach.disc, discA, discY, h, h2, cond_true, cond_false]] at hK
    exact fin_ke tt_ok (rs := rs_alt_machine_disc) rfl rfl hK [0, 1, 2] rfl rfl rfl rfl rfl rfl
  · rw [show Mach.disc ⟨k, e, m⟩ = .of { k with a := 0, b := 0, c := 0 } (eOr e (m.err k.c), m) by simp only [Mach.disc, discA, discY, h, h2, h3, cond_true, cond_false]] at hK
    exact fin_ke tt_ok (rs := rs_alt_machine_disc) rfl rfl hK [0, 1, 2] rfl rfl rfl rfl rfl rfl
  · rw [show Mach.disc ⟨k, e, m⟩ = .of { k with a := bif m.word k.wptr == -1 then 1 else 0, b := 0, c := 0 } (chooseY k.wptr k.a (eOr e (m.err k.c)) m) by simp only [Mach.disc, discA, discY, h, h2, h3, cond_false]] at hK
    exact fin_ke tt_ok (rs := rs_alt_machine_disc) rfl rfl hK [0, 1, 2] rfl rfl rfl rfl rfl rfl
def Mach.altend : Mach → Mach
  | ⟨k, e, m⟩ => ⟨{ k with iptr := IntKind.i32.wrap (k.iptr + m.word k.wptr) }, eOr e (m.err k.wptr), m⟩
theorem altend_c (x : Mach) (hw : I32 x.k.wptr) : Con Try.prog f_alt_machine_altend [.s (.loc 0 0)] x.chunks (.ret (.tup []) x.altend.chunks) := by
  obtain ⟨k, e, m⟩ := x
  intro K hK
  refine enter fn_alt_machine_altend rfl nt_alt_machine_altend rfl rfl (fun φ w0 β0 F => ?_)
  refine c_run tt_ok ctMC_ok k_alt_machine_altend [] 60 (by kernel_rfl) ?_
  refine c_ways tt_ok ctMC_ok k_alt_machine_altend rfl rfl ?_
  refine ⟨⟨m, ⟨rfl, rfl, rfl, rfl, hw⟩, ?_⟩, ⟨m, ⟨rfl, rfl, rfl, rfl, hw⟩, ?_⟩, ⟨m, ⟨rfl, rfl, rfl, rfl, hw⟩, ?_⟩⟩
  all_goals exact fin_ke tt_ok (rs := rs_alt_machine_altend) rfl rfl hK [0, 1, 2] rfl rfl rfl rfl rfl rfl
end Go.Proofs

namespace Go.Proofs
open Go Go.Sx
set_option maxRecDepth 10000
theorem and3_i32 (v : Int) : bits .and .i32 v 3 = v % 4 := by
  have e : bits .and .i32 v 3 = IntKind.i32.wrap ((BitVec.ofInt 32 v &&& BitVec.ofInt 32 3).toNat : Int) := rfl
  have hn : ∀ i, i < 32 → (BitVec.ofInt 32 3).getLsbD i = decide (i < 2) := by decide
  have e1 : BitVec.ofInt 32 v &&& BitVec.ofInt 32 3 = ((BitVec.ofInt 32 v).setWidth 2).setWidth 32 := by
    apply BitVec.eq_of_getLsbD_eq
    intro i hi
    rw [BitVec.getLsbD_and, hn i hi]
    simp only [BitVec.getLsbD_setWidth]
    by_cases h2 : i < 2 <;> simp [h2, hi]
  have e2 : ((((BitVec.ofInt 32 v).setWidth 2).setWidth 32).toNat : Int) = v % 4 := by
    rw [BitVec.toNat_setWidth, BitVec.toNat_setWidth, BitVec.toNat_ofInt]
    have : ((2 ^ 32 : Nat) : Int) = 4294967296 := rfl
    rw [this]; omega
  rw [e, e1, e2, IntKind.wrap_i32]; omega
noncomputable abbrev ctSz : CT := [(f_mem_Mem_Size, eSizeT)]
theorem ctSz_ok : CTok Try.prog ctSz := ⟨con_ok cal_mem_Mem_Size _, trivial⟩
def validB (m : Ram) (w : Int) : Bool := bif bif w % 4 == 0 then decide (ofAt w ≥ 20) else false then decide (ofAt w + 4 ≤ m.l.length) else false
theorem valid_c (m : Ram) (w : Int) (hw : I32 w) : Con Try.prog f_sched_valid [.s (.loc 0 0), .s (.int .i32 w)] [mBox m.l.length, mOwn m.l] (.ret (.t (.s (.bool (validB m w)))) [mBox m.l.length, mOwn m.l]) := by
  intro K hK
  refine enter fn_sched_valid rfl nt_sched_valid rfl rfl (fun φ w0 β0 F => ?_)
  refine c_run tt_ok ctSz_ok k_sched_valid [] 60 (by kernel_rfl) ?_
  have e : (bif bits .and .i32 w 3 == 0 then decide (IntKind.i64.wrap (IntKind.i64.wrap w - -2147483648) ≥ 20) else false) = (bif w % 4 == 0 then decide (ofAt w ≥ 20) else false) := by
    unfold I32 at hw
    rw [and3_i32, wrap64 (n := w) (by omega) (by omega), wrap64 (by omega) (by omega)]; rfl
  have hn := m.hi
  refine ⟨fun h => ?_, fun h => ?_⟩
  · refine fin_k tt_ok (rs := rs_sched_valid) rfl rfl hK [0, 1] (t1b ?_) rfl rfl rfl rfl rfl
    rw [e]
    unfold validB
    rw [e] at h
    rw [h]
    unfold I32 at hw
    rw [wrap64 (n := w) (by omega) (by omega), wrap64 (n := w - -2147483648) (by omega) (by omega), wrap64 (by omega) (by omega)]; rfl
  · have h' : (bif w % 4 == 0 then decide (ofAt w ≥ 20) else false) = false := by rw [← e]; exact h
    refine ⟨fun h' => absurd (h.symm.trans h') (by decide), fun _ => ⟨h, ?_⟩⟩
    refine fin_k tt_ok (rs := rs_sched_valid) rfl rfl hK [0, 1] ?_ rfl rfl rfl rfl rfl
    refine t1b ?_
    unfold validB
    rw [h']; rfl
noncomputable abbrev eValid : Ent := .st (conS (P := Try.prog) (f := f_sched_valid) fun cargs σ0 => match cargs, σ0 with
  | [.s (.loc 0 0), .s (.int .i32 w)], [.blk 65 [.sl 1 0 n n'], .own 5 1 c xs] => some ⟨.ex Ram fun m => .ask (n = m.l.length ∧ n' = m.l.length ∧ c = m.l.length ∧ xs = bytesI m.l ∧ I32 w)
      (.ret (.t (.s (.bool (validB m w)))) [mBox m.l.length, mOwn m.l]), fun K h => by
      obtain ⟨m, ⟨e1, e2, e3, e4, h1⟩, h⟩ := h
      subst e1; subst e2; subst e3; subst e4
      exact valid_c m w h1 K h⟩
  | _, _ => none)
noncomputable abbrev ctWt : CT := [(f_sched_none, in_sched_none ctSz), (f_sched_valid, eValid), (f_mem_Mem_SetWord, eSetWordT), (f_sched_nobody, in_sched_nobody [])]
theorem ctWt_ok : CTok Try.prog ctWt := ⟨in_sched_none_ok ctSz_ok, con_ok cal_sched_valid _, con_ok cal_mem_Mem_SetWord _, in_sched_nobody_ok (ct := []) trivial, trivial⟩
def Core.nobody (k : Core) : Core := { k with a := 0, b := 0, c := 0, iptr := 0, wptr := 0, pri := 0, slice := 0, err := false, busy := false }
def waitE (k : Core) (m : Ram) : Int := bif !k.busy then 8 else bif !validB m k.wptr then 4 else 0
def waitK (k : Core) (m : Ram) : Core := kSel (waitE k m == 0) k.nobody .zero
def waitM (k : Core) (m : Ram) : Ram := bif waitE k m == 0 then m.set (IntKind.i32.wrap (k.wptr + -4)) k.iptr else m
theorem Wait_c (k : Core) (m : Ram) (hw : I32 k.wptr) : Con Try.prog f_sched_Wait [.agg k.sv, .s (.loc 0 0)] [mBox m.l.length, mOwn m.l]
    (.ret (.tup [.agg (waitK k m).sv, .s (.int .i64 (waitE k m))]) [mBox (waitM k m).l.length, mOwn (waitM k m).l]) := by
  intro K hK
  refine enter fn_sched_Wait rfl nt_sched_Wait rfl rfl (fun φ w0 β0 F => ?_)
  refine c_run tt_ok ctWt_ok k_sched_Wait [] 60 (by kernel_rfl) ?_
  refine ⟨fun h => ?_, fun _ => ⟨fun h => ?_, fun h => ?_⟩⟩
  · exfalso; have h0 := m.lo; have := of_decide_eq_true h; omega
  · rw [show waitE k m = 8 by simp only [waitE, h, cond_true], show waitM k m = m by simp [waitM, waitE, h], show waitK k m = .zero by simp [waitK, waitE, h, kSel_f]] at hK
    exact fin_k tt_ok (rs := rs_sched_Wait) rfl rfl hK [0, 1] rfl rfl rfl rfl rfl rfl
  · refine ⟨m, ⟨rfl, rfl, rfl, rfl, hw⟩, fun h2 => ?_, fun h2 => ?_⟩
    · rw [show waitE k m = 4 by simp only [waitE, h, h2, cond_true, cond_false], show waitM k m = m by simp [waitM, waitE, h, h2], show waitK k m = .zero by simp [waitK, waitE, h, h2, kSel_f]] at hK
      exact fin_k tt_ok (rs := rs_sched_Wait) rfl rfl hK [0, 1] rfl rfl rfl rfl rfl rfl
    · rw [show waitE k m = 0 by simp only [waitE, h, h2, cond_false], show waitM k m = m.set (IntKind.i32.wrap (k.wptr + -4)) k.iptr by simp [waitM, waitE, h, h2], show waitK k m = k.nobody by simp [waitK, waitE, h, h2, kSel_t]] at hK
      refine ⟨m, ⟨rfl, rfl, rfl, rfl, I32_wrap _⟩, ?_⟩
      exact fin_k tt_ok (rs := rs_sched_Wait) rfl rfl hK [0, 1] rfl rfl rfl rfl rfl rfl
end Go.Proofs

namespace Go.Proofs
open Go Go.Sx
set_option maxRecDepth 10000
noncomputable abbrev eWait : Ent := .st (conS (P := Try.prog) (f := f_sched_Wait) fun cargs σ0 => match cargs, σ0 with
  | [.agg cs, .s (.loc 0 0)], [.blk 65 [.sl 1 0 n n'], .own 5 1 c xs] => withCore cs fun k hk => some ⟨.ex Ram fun m => .ask (n = m.l.length ∧ n' = m.l.length ∧ c = m.l.length ∧ xs = bytesI m.l ∧ I32 k.wptr)
      (.ret (.tup [.agg (waitK k m).sv, .s (.int .i64 (waitE k m))]) [mBox (waitM k m).l.length, mOwn (waitM k m).l]), fun K h => by
      obtain ⟨m, ⟨e1, e2, e3, e4, h1⟩, h⟩ := h
      subst e1; subst e2; subst e3; subst e4; subst hk
      exact Wait_c k m h1 K h⟩
  | _, _ => none)
noncomputable abbrev ctMT : CT := (f_sched_Wait, eWait) :: ctMC
theorem ctMT_ok : CTok Try.prog ctMT := ⟨con_ok cal_sched_Wait _, ctMC_ok⟩
def awGo (k : Core) (e : Int) (m : Ram) : Bool := !(m.word (stAt k.wptr) == -2147483645) && (!(eOr e (m.err (stAt k.wptr)) != 0) && !(waitE k m != 0))
def altwtY (k : Core) (e : Int) (m : Ram) : Int × Ram :=
  bif m.word (stAt k.wptr) == -2147483645 then emStore (eOr e (m.err (stAt k.wptr))) m k.wptr (-1)
  else bif eOr e (m.err (stAt k.wptr)) != 0 then (eOr e (m.err (stAt k.wptr)), m)
  else bif waitE k m != 0 then (waitE k m, waitM k m)
  else emStore (emStore (eOr e (m.err (stAt k.wptr))) (waitM k m) k.wptr (-1)).1 (emStore (eOr e (m.err (stAt k.wptr))) (waitM k m) k.wptr (-1)).2 (stAt k.wptr) (-2147483646)
def Mach.altwt : Mach → Mach
  | ⟨k, e, m⟩ => .of (kSel (awGo k e m) (waitK k m) k) (altwtY k e m)
set_option maxHeartbeats 4000000 in
theorem altwt_c (x : Mach) (hw : I32 x.k.wptr) : Con Try.prog f_alt_machine_altwt [.s (.loc 0 0)] x.chunks (.ret (.tup []) x.altwt.chunks) := by
  obtain ⟨k, e, m⟩ := x
  intro K hK
  refine enter fn_alt_machine_altwt rfl nt_alt_machine_altwt rfl rfl (fun φ w0 β0 F => ?_)
  refine c_run tt_ok ctMT_ok k_alt_machine_altwt [] 60 (by kernel_rfl) ?_
  refine ⟨m, ⟨rfl, rfl, rfl, rfl⟩, m, ⟨rfl, rfl, rfl, rfl, I32_wrap _⟩, fun h => ⟨m, ⟨rfl, rfl, rfl, rfl, hw⟩, ?_⟩, fun h => ⟨fun h2 => ?_, fun h2 => ?_⟩⟩
  · rw [show Mach.altwt ⟨k, e, m⟩ = .of k (emStore (eOr e (m.err (stAt k.wptr))) m k.wptr (-1)) by simp only [Mach.altwt, altwtY, awGo, h, cond_true, Bool.not_true, Bool.false_and, kSel_f]] at hK
    exact fin_k tt_ok (rs := rs_alt_machine_altwt) rfl rfl hK [0, 1, 2] rfl rfl rfl rfl rfl rfl
  · rw [show Mach.altwt ⟨k, e, m⟩ = .of k (eOr e (m.err (stAt k.wptr)), m) by simp only [Mach.altwt, altwtY, awGo, h, h2, cond_true, cond_false, Bool.not_true, Bool.false_and, Bool.and_false, kSel_f]] at hK
    exact fin_k tt_ok (rs := rs_alt_machine_altwt) rfl rfl hK [0, 1, 2] rfl rfl rfl rfl rfl rfl
  · refine c_ways tt_ok ctMT_ok k_alt_machine_altwt rfl rfl ?_
    refine ⟨⟨⟨⟨m, ⟨rfl, rfl, rfl, rfl, hw⟩, ?_⟩, ⟨m, ⟨rfl, rfl, rfl, rfl, hw⟩, ?_⟩⟩, ⟨m, ⟨rfl, rfl, rfl, rfl, hw⟩, ?_⟩⟩, ⟨⟨⟨⟨m, ⟨rfl, rfl, rfl, rfl, hw⟩, ?_⟩, ⟨m, ⟨rfl, rfl, rfl, rfl, hw⟩, ?_⟩⟩, ⟨m, ⟨rfl, rfl, rfl, rfl, hw⟩, ?_⟩⟩, ⟨⟨m, ⟨rfl, rfl, rfl, rfl, hw⟩, ?_⟩, ⟨m, ⟨rfl, rfl, rfl, rfl, hw⟩, ?_⟩⟩⟩⟩
    all_goals
      refine e_run tt_ok ctMT_ok k_alt_machine_altwt [] 60 (by kernel_rfl) ?_
      refine ⟨fun h3 => ?_, fun h3 => ⟨_, ⟨rfl, rfl, rfl, rfl, hw⟩, _, ⟨rfl, rfl, rfl, rfl⟩, _, ⟨rfl, rfl, rfl, rfl, I32_wrap _⟩, ?_⟩⟩
      · rw [show Mach.altwt ⟨k, e, m⟩ = .of k (waitE k m, waitM k m) by simp only [Mach.altwt, altwtY, awGo, h, h2, show (waitE k m != 0) = true from h3, cond_true, cond_false, Bool.not_true, Bool.false_and, Bool.and_false, kSel_f]] at hK
        exact fin_k tt_ok (rs := rs_alt_machine_altwt) rfl rfl hK [0, 1, 2] rfl rfl rfl rfl rfl rfl
      · rw [show Mach.altwt ⟨k, e, m⟩ = .of (waitK k m) (emStore (emStore (eOr e (m.err (stAt k.wptr))) (waitM k m) k.wptr (-1)).1 (emStore (eOr e (m.err (stAt k.wptr))) (waitM k m) k.wptr (-1)).2 (stAt k.wptr) (-2147483646)) by simp only [Mach.altwt, altwtY, awGo, h, h2, show (waitE k m != 0) = false from h3, cond_true, cond_false, Bool.not_true, Bool.not_false, Bool.true_and, Bool.and_true, kSel_t]] at hK
        exact fin_ke tt_ok (rs := rs_alt_machine_altwt) rfl rfl hK [0, 1, 2] rfl rfl rfl rfl rfl rfl
end Go.Proofs

namespace Go.Proofs
open Go Go.Sx
set_option maxRecDepth 10000
def opOut (o : Int) : Out := .br (o == 67) (.ret (.t (.clo (.func 39) [] [])) []) (.br (o == 73) (.ret (.t (.clo (.func 40) [] [])) []) (.br (o == 72) (.ret (.t (.clo (.func 41) [] [])) []) (.br (o == 68) (.ret (.t (.clo (.func 42) [] [])) []) (.br (o == 48) (.ret (.t (.clo (.func 43) [] [])) []) (.br (o == 47) (.ret (.t (.clo (.func 44) [] [])) []) (.br (o == 69) (.ret (.t (.clo (.func 45) [] [])) []) (.ret (.t (.s (.raw .nilFunc))) [])))))))
theorem operation_c (o : Int) : Con Try.prog f_alt_operation [.s (.int .i32 o)] [] (opOut o) := by
  intro K hK
  refine enter fn_alt_operation rfl nt_alt_operation rfl rfl (fun φ w0 β0 F => ?_)
  refine c_run tt_ok (ct := []) trivial k_alt_operation [] 60 (by kernel_rfl) ?_
  refine ⟨fun h0 => ?_, fun h0 => ⟨fun h1 => ?_, fun h1 => ⟨fun h2 => ?_, fun h2 => ⟨fun h3 => ?_, fun h3 => ⟨fun h4 => ?_, fun h4 => ⟨fun h5 => ?_, fun h5 => ⟨fun h6 => ?_, fun h6 => ?_⟩⟩⟩⟩⟩⟩⟩
  · exact fin_k tt_ok (rs := rs_alt_operation) rfl rfl (hK.1 h0) [] rfl rfl rfl rfl rfl rfl
  · exact fin_k tt_ok (rs := rs_alt_operation) rfl rfl ((hK.2 h0).1 h1) [] rfl rfl rfl rfl rfl rfl
  · exact fin_k tt_ok (rs := rs_alt_operation) rfl rfl (((hK.2 h0).2 h1).1 h2) [] rfl rfl rfl rfl rfl rfl
  · exact fin_k tt_ok (rs := rs_alt_operation) rfl rfl ((((hK.2 h0).2 h1).2 h2).1 h3) [] rfl rfl rfl rfl rfl rfl
  · exact fin_k tt_ok (rs := rs_alt_operation) rfl rfl (((((hK.2 h0).2 h1).2 h2).2 h3).1 h4) [] rfl rfl rfl rfl rfl rfl
  · exact fin_k tt_ok (rs := rs_alt_operation) rfl rfl ((((((hK.2 h0).2 h1).2 h2).2 h3).2 h4).1 h5) [] rfl rfl rfl rfl rfl rfl
  · exact fin_k tt_ok (rs := rs_alt_operation) rfl rfl (((((((hK.2 h0).2 h1).2 h2).2 h3).2 h4).2 h5).1 h6) [] rfl rfl rfl rfl rfl rfl
  · exact fin_k tt_ok (rs := rs_alt_operation) rfl rfl (((((((hK.2 h0).2 h1).2 h2).2 h3).2 h4).2 h5).2 h6) [] rfl rfl rfl rfl rfl rfl
noncomputable abbrev eOperation : Ent := .st (conS (P := Try.prog) (f := f_alt_operation) fun cargs σ0 => match cargs, σ0 with
  | [.s (.int .i32 o)], [] => some ⟨opOut o, fun K h => operation_c o K h⟩
  | _, _ => none)
noncomputable abbrev ctOp : CT := [(f_alt_operation, eOperation)]
theorem ctOp_ok : CTok Try.prog ctOp := ⟨con_ok cal_alt_operation _, trivial⟩
def isOp (o : Int) : Bool := bif o == 67 then true else bif o == 73 then true else bif o == 72 then true else bif o == 68 then true else bif o == 48 then true else bif o == 47 then true else bif o == 69 then true else false
def mineB (fn arg : Int) : Bool := bif fn == 15 then isOp arg else false
theorem Mine_c (fn arg : Int) : Con Try.prog f_alt_Mine [.agg [.int .u8 fn, .int .i32 arg]] [] (.ret (.t (.s (.bool (mineB fn arg)))) []) := by
  intro K hK
  refine enter fn_alt_Mine rfl nt_alt_Mine rfl rfl (fun φ w0 β0 F => ?_)
  refine c_run tt_ok ctOp_ok k_alt_Mine [] 60 (by kernel_rfl) ?_
  refine ⟨fun h => ⟨fun h0 => ?_, fun h0 => ⟨fun h1 => ?_, fun h1 => ⟨fun h2 => ?_, fun h2 => ⟨fun h3 => ?_, fun h3 => ⟨fun h4 => ?_, fun h4 => ⟨fun h5 => ?_, fun h5 => ⟨fun h6 => ?_, fun h6 => ?_⟩⟩⟩⟩⟩⟩⟩, fun h => ⟨fun h' => absurd (h.symm.trans h') (by decide), fun _ => ⟨h, ?_⟩⟩⟩
  · refine fin_k tt_ok (rs := rs_alt_Mine) rfl rfl hK [] ?_ rfl rfl rfl rfl rfl
    rw [show mineB fn arg = true by simp only [mineB, isOp, h, h0, cond_true, cond_false]]
    rw [h]; rfl
  · refine fin_k tt_ok (rs := rs_alt_Mine) rfl rfl hK [] ?_ rfl rfl rfl rfl rfl
    rw [show mineB fn arg = true by simp only [mineB, isOp, h, h0, h1, cond_true, cond_false]]
    rw [h]; rfl
  · refine fin_k tt_ok (rs := rs_alt_Mine) rfl rfl hK [] ?_ rfl rfl rfl rfl rfl
    rw [show mineB fn arg = true by simp only [mineB, isOp, h, h0, h1, h2, cond_true, cond_false]]
    rw [h]; rfl
  · refine fin_k tt_ok (rs := rs_alt_Mine) rfl rfl hK [] ?_ rfl rfl rfl rfl rfl
    rw [show mineB fn arg = true by simp only [mineB, isOp, h, h0, h1, h2, h3, cond_true, cond_false]]
    rw [h]; rfl
  · refine fin_k tt_ok (rs := rs_alt_Mine) rfl rfl hK [] ?_ rfl rfl rfl rfl rfl
    rw [show mineB fn arg = true by simp only [mineB, isOp, h, h0, h1, h2, h3, h4, cond_true, cond_false]]
    rw [h]; rfl
  · refine fin_k tt_ok (rs := rs_alt_Mine) rfl rfl hK [] ?_ rfl rfl rfl rfl rfl
    rw [show mineB fn arg = true by simp only [mineB, isOp, h, h0, h1, h2, h3, h4, h5, cond_true, cond_false]]
    rw [h]; rfl
  · refine fin_k tt_ok (rs := rs_alt_Mine) rfl rfl hK [] ?_ rfl rfl rfl rfl rfl
    rw [show mineB fn arg = true by simp only [mineB, isOp, h, h0, h1, h2, h3, h4, h5, h6, cond_true, cond_false]]
    rw [h]; rfl
  · refine fin_k tt_ok (rs := rs_alt_Mine) rfl rfl hK [] ?_ rfl rfl rfl rfl rfl
    rw [show mineB fn arg = false by simp only [mineB, isOp, h, h0, h1, h2, h3, h4, h5, h6, cond_true, cond_false]]
    rw [h]; rfl
  · have h' : (fn == 15) = false := h
    refine fin_k tt_ok (rs := rs_alt_Mine) rfl rfl hK [] ?_ rfl rfl rfl rfl rfl
    rw [show mineB fn arg = false by simp only [mineB, h', cond_false]]; rfl
def spMine : List TV → Option (Prop × FV)
  | [.agg [.int .u8 fn, .int .i32 arg]] => some (True, .t (.s (.bool (mineB fn arg))))
  | _ => none
theorem ceMine : CEok Try.prog f_alt_Mine spMine := ⟨cal_alt_Mine, fun args p v h hp => by
  unfold spMine at h; split at h
  · cases h; exact (Mine_c _ _).pure
  · cases h⟩
noncomputable abbrev eM_alt : Ent := .st (conS (P := Try.prog) (f := f_alt_machine_alt) fun cargs σ0 => match cargs, σ0 with
  | [.s (.loc 0 0)], [.blk 77 (.loc 1 0 :: .int .i64 e :: cs), .blk 65 [.sl 2 0 n n'], .own 5 1 c xs] => withCore cs fun k hk => some ⟨.ex Ram fun m => .ask (n = m.l.length ∧ n' = m.l.length ∧ c = m.l.length ∧ xs = bytesI m.l)
      (.ret (.tup []) ((Mach.mk k e m).alt).chunks), fun K h => by
      obtain ⟨m, ⟨e1, e2, e3, e4⟩, h⟩ := h
      subst e1; subst e2; subst e3; subst e4; subst hk
      exact alt_c ⟨k, e, m⟩ K h⟩
  | _, _ => none)
noncomputable abbrev eM_enbs : Ent := .st (conS (P := Try.prog) (f := f_alt_machine_enbs) fun cargs σ0 => match cargs, σ0 with
  | [.s (.loc 0 0)], [.blk 77 (.loc 1 0 :: .int .i64 e :: cs), .blk 65 [.sl 2 0 n n'], .own 5 1 c xs] => withCore cs fun k hk => some ⟨.ex Ram fun m => .ask (n = m.l.length ∧ n' = m.l.length ∧ c = m.l.length ∧ xs = bytesI m.l)
      (.ret (.tup []) ((Mach.mk k e m).enbs).chunks), fun K h => by
      obtain ⟨m, ⟨e1, e2, e3, e4⟩, h⟩ := h
      subst e1; subst e2; subst e3; subst e4; subst hk
      exact enbs_c ⟨k, e, m⟩ K h⟩
  | _, _ => none)
noncomputable abbrev eM_enbc : Ent := .st (conS (P := Try.prog) (f := f_alt_machine_enbc) fun cargs σ0 => match cargs, σ0 with
  | [.s (.loc 0 0)], [.blk 77 (.loc 1 0 :: .int .i64 e :: cs), .blk 65 [.sl 2 0 n n'], .own 5 1 c xs] => withCore cs fun k hk => some ⟨.ex Ram fun m => .ask (n = m.l.length ∧ n' = m.l.length ∧ c = m.l.length ∧ xs = bytesI m.l ∧ I32 k.b)
      (.ret (.tup []) ((Mach.mk k e m).enbc).chunks), fun K h => by
      obtain ⟨m, ⟨e1, e2, e3, e4, h1⟩, h⟩ := h
      subst e1; subst e2; subst e3; subst e4; subst hk
      exact enbc_c ⟨k, e, m⟩ h1 K h⟩
  | _, _ => none)
noncomputable abbrev eM_altwt : Ent := .st (conS (P := Try.prog) (f := f_alt_machine_altwt) fun cargs σ0 => match cargs, σ0 with
  | [.s (.loc 0 0)], [.blk 77 (.loc 1 0 :: .int .i64 e :: cs), .blk 65 [.sl 2 0 n n'], .own 5 1 c xs] => withCore cs fun k hk => some ⟨.ex Ram fun m => .ask (n = m.l.length ∧ n' = m.l.length ∧ c = m.l.length ∧ xs = bytesI m.l ∧ I32 k.wptr)
      (.ret (.tup []) ((Mach.mk k e m).altwt).chunks), fun K h => by
      obtain ⟨m, ⟨e1, e2, e3, e4, h1⟩, h⟩ := h
      subst e1; subst e2; subst e3; subst e4; subst hk
      exact altwt_c ⟨k, e, m⟩ h1 K h⟩
  | _, _ => none)
noncomputable abbrev eM_diss : Ent := .st (conS (P := Try.prog) (f := f_alt_machine_diss) fun cargs σ0 => match cargs, σ0 with
  | [.s (.loc 0 0)], [.blk 77 (.loc 1 0 :: .int .i64 e :: cs), .blk 65 [.sl 2 0 n n'], .own 5 1 c xs] => withCore cs fun k hk => some ⟨.ex Ram fun m => .ask (n = m.l.length ∧ n' = m.l.length ∧ c = m.l.length ∧ xs = bytesI m.l ∧ I32 k.wptr)
      (.ret (.tup []) ((Mach.mk k e m).diss).chunks), fun K h => by
      obtain ⟨m, ⟨e1, e2, e3, e4, h1⟩, h⟩ := h
      subst e1; subst e2; subst e3; subst e4; subst hk
      exact diss_c ⟨k, e, m⟩ h1 K h⟩
  | _, _ => none)
noncomputable abbrev eM_disc : Ent := .st (conS (P := Try.prog) (f := f_alt_machine_disc) fun cargs σ0 => match cargs, σ0 with
  | [.s (.loc 0 0)], [.blk 77 (.loc 1 0 :: .int .i64 e :: cs), .blk 65 [.sl 2 0 n n'], .own 5 1 c xs] => withCore cs fun k hk => some ⟨.ex Ram fun m => .ask (n = m.l.length ∧ n' = m.l.length ∧ c = m.l.length ∧ xs = bytesI m.l ∧ I32 k.c ∧ I32 k.wptr)
      (.ret (.tup []) ((Mach.mk k e m).disc).chunks), fun K h => by
      obtain ⟨m, ⟨e1, e2, e3, e4, h1, h2⟩, h⟩ := h
      subst e1; subst e2; subst e3; subst e4; subst hk
      exact disc_c ⟨k, e, m⟩ h1 h2 K h⟩
  | _, _ => none)
noncomputable abbrev eM_altend : Ent := .st (conS (P := Try.prog) (f := f_alt_machine_altend) fun cargs σ0 => match cargs, σ0 with
  | [.s (.loc 0 0)], [.blk 77 (.loc 1 0 :: .int .i64 e :: cs), .blk 65 [.sl 2 0 n n'], .own 5 1 c xs] => withCore cs fun k hk => some ⟨.ex Ram fun m => .ask (n = m.l.length ∧ n' = m.l.length ∧ c = m.l.length ∧ xs = bytesI m.l ∧ I32 k.wptr)
      (.ret (.tup []) ((Mach.mk k e m).altend).chunks), fun K h => by
      obtain ⟨m, ⟨e1, e2, e3, e4, h1⟩, h⟩ := h
      subst e1; subst e2; subst e3; subst e4; subst hk
      exact altend_c ⟨k, e, m⟩ h1 K h⟩
  | _, _ => none)
end Go.Proofs

namespace Go.Proofs
open Go Go.Sx
set_option maxRecDepth 10000
def linkedB (k : Core) (o : Int) : Bool := bif bif bif o == 72 then k.a != 0 else false then decide (k.b < -2147483616) else false then true else bif bif o == 47 then k.b != 0 else false then decide (k.c < -2147483616) else false
theorem linked_c (k : Core) (o : Int) : Con Try.prog f_alt_linked [.agg k.sv, .s (.int .i32 o)] [] (.ret (.t (.s (.bool (linkedB k o)))) []) := by
  intro K hK
  refine enter fn_alt_linked rfl nt_alt_linked rfl rfl (fun φ w0 β0 F => ?_)
  refine c_run tt_ok (ct := []) trivial k_alt_linked [] 60 (by kernel_rfl) ?_
  exact fin_k tt_ok (rs := rs_alt_linked) rfl rfl hK [] rfl rfl rfl rfl rfl rfl
def spLinked : List TV → Option (Prop × FV)
  | [.agg cs, .s (.int .i32 o)] => withCore cs fun k _ => some (True, .t (.s (.bool (linkedB k o))))
  | _ => none
theorem ceLinked : CEok Try.prog f_alt_linked spLinked := ⟨cal_alt_linked, fun args p v h hp => by
  unfold spLinked at h; split at h
  · obtain ⟨k, hk, h⟩ := withCore_some h
    cases h; subst hk; exact (linked_c _ _).pure
  · cases h⟩
def opM (k : Core) (m : Ram) (o : Int) : Mach := bif o == 67 then Mach.alt ⟨k, 0, m⟩ else bif o == 73 then Mach.enbs ⟨k, 0, m⟩ else bif o == 72 then Mach.enbc ⟨k, 0, m⟩ else bif o == 68 then Mach.altwt ⟨k, 0, m⟩ else bif o == 48 then Mach.diss ⟨k, 0, m⟩ else bif o == 47 then Mach.disc ⟨k, 0, m⟩ else bif o == 69 then Mach.altend ⟨k, 0, m⟩ else ⟨k, 0, m⟩
def finR (x : Mach) : Core × Int × Ram := (kSel (x.e != 0) .zero x.k, bif x.e != 0 then 4 else 0, x.m)
def execR (k : Core) (m : Ram) (fn o : Int) : Core × Int × Ram :=
  bif k.pri.fdiv 2 != 0 then (.zero, 2, m) else bif !mineB fn o then (.zero, 280, m) else bif (bif !k.busy then true else linkedB k o) then (.zero, 8, m) else finR (opM k m o)
noncomputable abbrev ctEx : CT := [(f_mem_Mem_Size, eSizeT), (f_alt_Mine, .pure spMine), (f_alt_linked, .pure spLinked), (f_alt_operation, eOperation), (f_alt_machine_alt, eM_alt), (f_alt_machine_enbs, eM_enbs), (f_alt_machine_enbc, eM_enbc), (f_alt_machine_altwt, eM_altwt), (f_alt_machine_diss, eM_diss), (f_alt_machine_disc, eM_disc), (f_alt_machine_altend, eM_altend)]
theorem ctEx_ok : CTok Try.prog ctEx := ⟨con_ok cal_mem_Mem_Size _, ceMine, ceLinked, con_ok cal_alt_operation _, con_ok cal_alt_machine_alt _, con_ok cal_alt_machine_enbs _, con_ok cal_alt_machine_enbc _, con_ok cal_alt_machine_altwt _, con_ok cal_alt_machine_diss _, con_ok cal_alt_machine_disc _, con_ok cal_alt_machine_altend _, trivial⟩
theorem Exec_c (k : Core) (m : Ram) (fn o : Int) (hok : k.ok) : Con Try.prog f_alt_Exec [.agg k.sv, .s (.loc 0 0), .agg [.int .u8 fn, .int .i32 o]] [mBox m.l.length, mOwn m.l]
    (.ret (.tup [.agg (execR k m fn o).1.sv, .s (.int .i64 (execR k m fn o).2.1)]) [mBox (execR k m fn o).2.2.l.length, mOwn (execR k m fn o).2.2.l]) := by
  intro K hK
  refine enter fn_alt_Exec rfl nt_alt_Exec rfl rfl (fun φ w0 β0 F => ?_)
  refine c_run tt_ok ctEx_ok k_alt_Exec [] 60 (by kernel_rfl) ?_
  refine ⟨fun h => ?_, fun _ => ⟨fun h => ?_, fun h => ⟨trivial, fun h2 => ?_, fun h2 => ⟨fun _ => trivial, fun h3 => ?_, fun h3 => ?_⟩⟩⟩⟩
  · exfalso; have h0 := m.lo; have := of_decide_eq_true h; omega
  · replace h : (k.pri.fdiv 2 != 0) = true := h
    rw [show execR k m fn o = (.zero, 2, m) by simp only [execR, h, cond_true]] at hK
    exact fin_k tt_ok (rs := rs_alt_Exec) rfl rfl hK [0, 1] rfl rfl rfl rfl rfl rfl
  · replace h : (k.pri.fdiv 2 != 0) = false := h
    rw [show execR k m fn o = (.zero, 280, m) by simp only [execR, h, h2, cond_true, cond_false]] at hK
    exact fin_k tt_ok (rs := rs_alt_Exec) rfl rfl hK [0, 1] rfl rfl rfl rfl rfl rfl
  · replace h : (k.pri.fdiv 2 != 0) = false := h
    rw [show execR k m fn o = (.zero, 8, m) by simp only [execR, h, h2, show (bif !k.busy then true else linkedB k o) = true from h3, cond_true, cond_false]] at hK
    exact fin_k tt_ok (rs := rs_alt_Exec) rfl rfl hK [0, 1] rfl rfl rfl rfl rfl rfl
  · replace h : (k.pri.fdiv 2 != 0) = false := h
    rw [show execR k m fn o = finR (opM k m o) by simp only [execR, h, h2, show (bif !k.busy then true else linkedB k o) = false from h3, cond_false]] at hK
    refine ⟨fun g0 => ⟨m, ⟨rfl, rfl, rfl, rfl⟩, fun he => ?_, fun he => ?_⟩, fun g0 => ⟨fun g1 => ⟨m, ⟨rfl, rfl, rfl, rfl⟩, fun he => ?_, fun he => ?_⟩, fun g1 => ⟨fun g2 => ⟨m, ⟨rfl, rfl, rfl, rfl, hok.b⟩, fun he => ?_, fun he => ?_⟩, fun g2 => ⟨fun g3 => ⟨m, ⟨rfl, rfl, rfl, rfl, hok.wptr⟩, fun he => ?_, fun he => ?_⟩, fun g3 => ⟨fun g4 => ⟨m, ⟨rfl, rfl, rfl, rfl, hok.wptr⟩, fun he => ?_, fun he => ?_⟩, fun g4 => ⟨fun g5 => ⟨m, ⟨rfl, rfl, rfl, rfl, hok.c, hok.wptr⟩, fun he => ?_, fun he => ?_⟩, fun g5 => ⟨fun g6 => ⟨m, ⟨rfl, rfl, rfl, rfl, hok.wptr⟩, fun he => ?_, fun he => ?_⟩, fun g6 => ?_⟩⟩⟩⟩⟩⟩⟩
    · rw [show finR (opM k m o) = (.zero, 4, (Mach.alt ⟨k, 0, m⟩).m) by simp only [opM, g0, cond_true, cond_false]; simp only [finR, show ((Mach.alt ⟨k, 0, m⟩).e != 0) = true from he, cond_true, cond_false, kSel_t]] at hK
      exact fin_k tt_ok (rs := rs_alt_Exec) rfl rfl hK [0, 1] rfl rfl rfl rfl rfl rfl
    · rw [show finR (opM k m o) = ((Mach.alt ⟨k, 0, m⟩).k, 0, (Mach.alt ⟨k, 0, m⟩).m) by simp only [opM, g0, cond_true, cond_false]; simp only [finR, show ((Mach.alt ⟨k, 0, m⟩).e != 0) = false from he, cond_true, cond_false, kSel_f]] at hK
      exact fin_k tt_ok (rs := rs_alt_Exec) rfl rfl hK [0, 1] rfl rfl rfl rfl rfl rfl
    · rw [show finR (opM k m o) = (.zero, 4, (Mach.enbs ⟨k, 0, m⟩).m) by simp only [opM, g0, g1, cond_true, cond_false]; simp only [finR, show ((Mach.enbs ⟨k, 0, m⟩).e != 0) = true from he, cond_true, cond_false, kSel_t]] at hK
      exact fin_k tt_ok (rs := rs_alt_Exec) rfl rfl hK [0, 1] rfl rfl rfl rfl rfl rfl
    · rw [show finR (opM k m o) = ((Mach.enbs ⟨k, 0, m⟩).k, 0, (Mach.enbs ⟨k, 0, m⟩).m) by simp only [opM, g0, g1, cond_true, cond_false]; simp only [finR, show ((Mach.enbs ⟨k, 0, m⟩).e != 0) = false from he, cond_true, cond_false, kSel_f]] at hK
      exact fin_k tt_ok (rs := rs_alt_Exec) rfl rfl hK [0, 1] rfl rfl rfl rfl rfl rfl
    · rw [show finR (opM k m o) = (.zero, 4, (Mach.enbc ⟨k, 0, m⟩).m) by simp only [opM, g0, g1, g2, cond_true, cond_false]; simp only [finR, show ((Mach.enbc ⟨k, 0, m⟩).e != 0) = true from he, cond_true, cond_false, kSel_t]] at hK
      exact fin_k tt_ok (rs := rs_alt_Exec) rfl rfl hK [0, 1] rfl rfl rfl rfl rfl rfl
    · rw [show finR (opM k m o) = ((Mach.enbc ⟨k, 0, m⟩).k, 0, (Mach.enbc ⟨k, 0, m⟩).m) by simp only [opM, g0, g1, g2, cond_true, cond_false]; simp only [finR, show ((Mach.enbc ⟨k, 0, m⟩).e != 0) = false from he, cond_true, cond_false, kSel_f]] at hK
      exact fin_k tt_ok (rs := rs_alt_Exec) rfl rfl hK [0, 1] rfl rfl rfl rfl rfl rfl
    · rw [show finR (opM k m o) = (.zero, 4, (Mach.altwt ⟨k, 0, m⟩).m) by simp only [opM, g0, g1, g2, g3, cond_true, cond_false]; simp only [finR, show ((Mach.altwt ⟨k, 0, m⟩).e != 0) = true from he, cond_true, cond_false, kSel_t]] at hK
      exact fin_k tt_ok (rs := rs_alt_Exec) rfl rfl hK [0, 1] rfl rfl rfl rfl rfl rfl
    · rw [show finR (opM k m o) = ((Mach.altwt ⟨k, 0, m⟩).k, 0, (Mach.altwt ⟨k, 0, m⟩).m) by simp only [opM, g0, g1, g2, g3, cond_true, cond_false]; simp only [finR, show ((Mach.altwt ⟨k, 0, m⟩).e != 0) = false from he, cond_true, cond_false, kSel_f]] at hK
      exact fin_k tt_ok (rs := rs_alt_Exec) rfl rfl hK [0, 1] rfl rfl rfl rfl rfl rfl
    · rw [show finR (opM k m o) = (.zero, 4, (Mach.diss ⟨k, 0, m⟩).m) by simp only [opM, g0, g1, g2, g3, g4, cond_true, cond_false]; simp only [finR, show ((Mach.diss ⟨k, 0, m⟩).e != 0) = true from he, cond_true, cond_false, kSel_t]] at hK
      exact fin_k tt_ok (rs := rs_alt_Exec) rfl rfl hK [0, 1] rfl rfl rfl rfl rfl rfl
    · rw [show finR (opM k m o) = ((Mach.diss ⟨k, 0, m⟩).k, 0, (Mach.diss ⟨k, 0, m⟩).m) by simp only [opM, g0, g1, g2, g3, g4, cond_true, cond_false]; simp only [finR, show ((Mach.diss ⟨k, 0, m⟩).e != 0) = false from he, cond_true, cond_false, kSel_f]] at hK
      exact fin_k tt_ok (rs := rs_alt_Exec) rfl rfl hK [0, 1] rfl rfl rfl rfl rfl rfl
    · rw [show finR (opM k m o) = (.zero, 4, (Mach.disc ⟨k, 0, m⟩).m) by simp only [opM, g0, g1, g2, g3, g4, g5, cond_true, cond_false]; simp only [finR, show ((Mach.disc ⟨k, 0, m⟩).e != 0) = true from he, cond_true, cond_false, kSel_t]] at hK
      exact fin_k tt_ok (rs := rs_alt_Exec) rfl rfl hK [0, 1] rfl rfl rfl rfl rfl rfl
    · rw [show finR (opM k m o) = ((Mach.disc ⟨k, 0, m⟩).k, 0, (Mach.disc ⟨k, 0, m⟩).m) by simp only [opM, g0, g1, g2, g3, g4, g5, cond_true, cond_false]; simp only [finR, show ((Mach.disc ⟨k, 0, m⟩).e != 0) = false from he, cond_true, cond_false, kSel_f]] at hK
      exact fin_k tt_ok (rs := rs_alt_Exec) rfl rfl hK [0, 1] rfl rfl rfl rfl rfl rfl
    · rw [show finR (opM k m o) = (.zero, 4, (Mach.altend ⟨k, 0, m⟩).m) by simp only [opM, g0, g1, g2, g3, g4, g5, g6, cond_true, cond_false]; simp only [finR, show ((Mach.altend ⟨k, 0, m⟩).e != 0) = true from he, cond_true, cond_false, kSel_t]] at hK
      exact fin_k tt_ok (rs := rs_alt_Exec) rfl rfl hK [0, 1] rfl rfl rfl rfl rfl rfl
    · rw [show finR (opM k m o) = ((Mach.altend ⟨k, 0, m⟩).k, 0, (Mach.altend ⟨k, 0, m⟩).m) by simp only [opM, g0, g1, g2, g3, g4, g5, g6, cond_true, cond_false]; simp only [finR, show ((Mach.altend ⟨k, 0, m⟩).e != 0) = false from he, cond_true, cond_false, kSel_f]] at hK
      exact fin_k tt_ok (rs := rs_alt_Exec) rfl rfl hK [0, 1] rfl rfl rfl rfl rfl rfl
    · exfalso
      have : mineB fn o = false := by unfold mineB isOp; simp only [g0, g1, g2, g3, g4, g5, g6, cond_false]; cases fn == 15 <;> rfl
      rw [this] at h2; exact absurd h2 (by decide)
end Go.Proofs

namespace Go.Proofs
open Go Go.Sx
set_option maxRecDepth 10000
def Core.abc : Core → Int → Int → Int → Core
  | ⟨_, _, _, iptr, wptr, pri, busy, err, hoe, halted, f0, f1, b0, b1, t0, t1, k0, k1, ticks, slice, sis, sa, sb, sc, siptr, swptr, serr, sslice⟩, a, b, c => ⟨a, b, c, iptr, wptr, pri, busy, err, hoe, halted, f0, f1, b0, b1, t0, t1, k0, k1, ticks, slice, sis, sa, sb, sc, siptr, swptr, serr, sslice⟩
theorem abc_ok {k : Core} (h : k.ok) {a b c : Int} (ha : I32 a) (hb : I32 b) (hc : I32 c) : (k.abc a b c).ok := by
  cases k; exact ⟨ha, hb, hc, h.4, h.5, h.6, h.7, h.8, h.9, h.10, h.11, h.12, h.13, h.14, h.15, h.16, h.17, h.18, h.19, h.20, h.21, h.22⟩
def i32B (n : Int) : Bool := decide (-2147483648 ≤ n) && decide (n ≤ 2147483647)
theorem i32B_ok {n : Int} (h : i32B n = true) : I32 n := by unfold i32B at h; unfold I32; simp at h; omega
def Core.okB (k : Core) : Bool := i32B k.a && i32B k.b && i32B k.c && i32B k.iptr && i32B k.wptr && (decide (-9223372036854775808 ≤ k.pri) && decide (k.pri ≤ 9223372036854775807)) && i32B k.f0 && i32B k.f1 && i32B k.b0 && i32B k.b1 && i32B k.t0 && i32B k.t1 && i32B k.k0 && i32B k.k1 && i32B k.ticks && i32B k.slice && i32B k.sa && i32B k.sb && i32B k.sc && i32B k.siptr && i32B k.swptr && i32B k.sslice
theorem okB_ok {k : Core} (h : k.okB = true) : k.ok := by
  unfold Core.okB at h
  simp only [Bool.and_eq_true] at h
  obtain ⟨⟨⟨⟨⟨⟨⟨⟨⟨⟨⟨⟨⟨⟨⟨⟨⟨⟨⟨⟨⟨h1, h2⟩, h3⟩, h4⟩, h5⟩, h6⟩, h7⟩, h8⟩, h9⟩, h10⟩, h11⟩, h12⟩, h13⟩, h14⟩, h15⟩, h16⟩, h17⟩, h18⟩, h19⟩, h20⟩, h21⟩, h22⟩ := h
  have h6' := of_decide_eq_true h6.1
  have h6'' := of_decide_eq_true h6.2
  exact ⟨i32B_ok h1, i32B_ok h2, i32B_ok h3, i32B_ok h4, i32B_ok h5, ⟨h6', h6''⟩, i32B_ok h7, i32B_ok h8, i32B_ok h9, i32B_ok h10, i32B_ok h11, i32B_ok h12, i32B_ok h13, i32B_ok h14, i32B_ok h15, i32B_ok h16, i32B_ok h17, i32B_ok h18, i32B_ok h19, i32B_ok h20, i32B_ok h21, i32B_ok h22⟩
/-- alt.Exec: what comes out is told by the caller, who shows that it is what execR says. -/
noncomputable abbrev eExec : Ent := .st (conS (P := Try.prog) (f := f_alt_Exec) fun cargs σ0 => match cargs, σ0 with
  | [.agg cs, .s (.loc 0 0), .agg [.int .u8 fn, .int .i32 o]], [.blk 65 [.sl 1 0 n n'], .own 5 1 c xs] => withCore cs fun k hk => some ⟨.ex (Ram × Core × Int × Ram) fun p => .ask (n = p.1.l.length ∧ n' = p.1.l.length ∧ c = p.1.l.length ∧ xs = bytesI p.1.l ∧ k.ok ∧ execR k p.1 fn o = p.2)
      (.ret (.tup [.agg p.2.1.sv, .s (.int .i64 p.2.2.1)]) [mBox p.2.2.2.l.length, mOwn p.2.2.2.l]), fun K h => by
      obtain ⟨⟨m, k', e', m'⟩, ⟨e1, e2, e3, e4, h1, h2⟩, h⟩ := h
      dsimp only at e1 e2 e3 e4 h2 h
      subst e1; subst e2; subst e3; subst e4; subst hk
      refine Exec_c k m fn o h1 K ?_
      rw [h2]; exact h⟩
  | _, _ => none)
noncomputable abbrev ctLE : CT := [(f_alt_Exec, eExec)]
theorem ctLE_ok : CTok Try.prog ctLE := ⟨con_ok cal_alt_Exec _, trivial⟩
theorem exec_c (k : Core) (m : Ram) (o a b c : Int) (k' : Core) (e' : Int) (m' : Ram) (hok : k.ok) (ha : I32 a) (hb : I32 b) (hc : I32 c) (hx : execR (k.abc a b c) m 15 o = (k', e', m')) :
    Con Try.prog f_l31_exec [.agg k.sv, .s (.loc 0 0), .s (.int .i32 o), .s (.int .i32 a), .s (.int .i32 b), .s (.int .i32 c)] [mBox m.l.length, mOwn m.l]
    (.ret (.tup [.agg k'.sv, .s (.int .i64 e')]) [mBox m'.l.length, mOwn m'.l]) := by
  intro K hK
  have hq := abc_ok hok ha hb hc
  obtain ⟨q0, q1, q2, q3, q4, q5, q6, q7, q8, q9, q10, q11, q12, q13, q14, q15, q16, q17, q18, q19, q20, q21, q22, q23, q24, q25, q26, q27⟩ := k
  obtain ⟨p0, p1, p2, p3, p4, p5, p6, p7, p8, p9, p10, p11, p12, p13, p14, p15, p16, p17, p18, p19, p20, p21, p22, p23, p24, p25, p26, p27⟩ := k'
  refine enter fn_l31_exec rfl nt_l31_exec rfl rfl (fun φ w0 β0 F => ?_)
  refine c_run tt_ok ctLE_ok k_l31_exec [] 60 (by kernel_rfl) ?_
  refine ⟨(m, ⟨p0, p1, p2, p3, p4, p5, p6, p7, p8, p9, p10, p11, p12, p13, p14, p15, p16, p17, p18, p19, p20, p21, p22, p23, p24, p25, p26, p27⟩, e', m'), ⟨rfl, rfl, rfl, rfl, hq, hx⟩, ?_⟩
  exact fin_k tt_ok (rs := rs_l31_exec) rfl rfl hK [0, 1] rfl rfl rfl rfl rfl rfl
noncomputable abbrev eExecL : Ent := .st (conS (P := Try.prog) (f := f_l31_exec) fun cargs σ0 => match cargs, σ0 with
  | [.agg cs, .s (.loc 0 0), .s (.int .i32 o), .s (.int .i32 a), .s (.int .i32 b), .s (.int .i32 cc)], [.blk 65 [.sl 1 0 n n'], .own 5 1 c xs] => withCore cs fun k hk => some ⟨.ex (Ram × Core × Int × Ram) fun p => .ask (n = p.1.l.length ∧ n' = p.1.l.length ∧ c = p.1.l.length ∧ xs = bytesI p.1.l ∧ (k.ok ∧ I32 a ∧ I32 b ∧ I32 cc) ∧ execR (k.abc a b cc) p.1 15 o = p.2)
      (.ret (.tup [.agg p.2.1.sv, .s (.int .i64 p.2.2.1)]) [mBox p.2.2.2.l.length, mOwn p.2.2.2.l]), fun K h => by
      obtain ⟨⟨m, k', e', m'⟩, ⟨e1, e2, e3, e4, ⟨h1, h3, h4, h5⟩, h2⟩, h⟩ := h
      dsimp only at e1 e2 e3 e4 h2 h
      subst e1; subst e2; subst e3; subst e4; subst hk
      exact exec_c k m o a b cc k' e' m' h1 h3 h4 h5 h2 K h⟩
  | _, _ => none)
noncomputable abbrev ctLW : CT := [(f_mem_Mem_Word, eWordT)]
theorem ctLW_ok : CTok Try.prog ctLW := ⟨con_ok cal_mem_Mem_Word _, trivial⟩
theorem lword_c (m : Ram) (a : Int) (ha : I32 a) : Con Try.prog f_l31_word [.s (.loc 0 0), .s (.int .i32 a)] [mBox m.l.length, mOwn m.l] (.ret (.t (.s (.int .i32 (m.word a)))) [mBox m.l.length, mOwn m.l]) := by
  intro K hK
  refine enter fn_l31_word rfl nt_l31_word rfl rfl (fun φ w0 β0 F => ?_)
  refine c_run tt_ok ctLW_ok k_l31_word [] 60 (by kernel_rfl) ?_
  refine ⟨m, ⟨rfl, rfl, rfl, rfl, ha⟩, ?_⟩
  exact fin_k tt_ok (rs := rs_l31_word) rfl rfl hK [0, 1] rfl rfl rfl rfl rfl rfl
noncomputable abbrev eLword : Ent := .st (conS (P := Try.prog) (f := f_l31_word) fun cargs σ0 => match cargs, σ0 with
  | [.s (.loc 0 0), .s (.int .i32 a)], [.blk 65 [.sl 1 0 n n'], .own 5 1 c xs] => some ⟨.ex Ram fun m => .ask (n = m.l.length ∧ n' = m.l.length ∧ c = m.l.length ∧ xs = bytesI m.l ∧ I32 a)
      (.ret (.t (.s (.int .i32 (m.word a)))) [mBox m.l.length, mOwn m.l]), fun K h => by
      obtain ⟨m, ⟨e1, e2, e3, e4, h1⟩, h⟩ := h
      subst e1; subst e2; subst e3; subst e4
      exact lword_c m a h1 K h⟩
  | _, _ => none)
def Ram.z : Ram := ⟨List.replicate 1024 0, by simp, by simp, by simp, by intro b hb; rw [List.mem_replicate] at hb; omega⟩
noncomputable abbrev eNew : Ent := .st (conS (P := Try.prog) (f := f_mem_New) fun cargs σ0 => match cargs, σ0 with
  | [.s (.int .i64 n)], [] => some ⟨.br (mayM n) (.ret (.tup [.s (.loc 0 0), .s (.int .i64 0)]) [mBox n.toNat, .own 5 1 n.toNat (bytesI (List.replicate n.toNat 0))]) (.ret (.tup [.s (.raw (.pointer none)), .s (.int .i64 2)]) []), fun K h => New_c n K h⟩
  | _, _ => none)
noncomputable abbrev ctNw : CT := [(f_mem_New, eNew)]
theorem ctNw_ok : CTok Try.prog ctNw := ⟨con_ok cal_mem_New _, trivial⟩
def rdK : Core := ⟨0, 0, 0, -2147483048, -2147483520, 1, true, false, false, false, 0, 0, 0, 0, 0, 0, 0, 0, 0, 0, false, 0, 0, 0, 0, 0, false, 0⟩
theorem rdK_ok : rdK.ok := okB_ok (by decide +kernel)
theorem ready_c : Con Try.prog f_l31_ready [] [] (.ret (.tup [.agg rdK.sv, .s (.loc 0 0)]) [.blk 65 [.sl 1 0 1024 1024], .own 5 1 1024 (bytesI Ram.z.l)]) := by
  intro K hK
  refine enter fn_l31_ready rfl nt_l31_ready rfl rfl (fun φ w0 β0 F => ?_)
  refine c_run tt_ok ctNw_ok k_l31_ready [] 60 (by kernel_rfl) ?_
  refine ⟨fun _ => ?_, fun h => absurd h (by decide)⟩
  exact fin_k tt_ok (rs := rs_l31_ready) rfl rfl hK [1, 2] rfl rfl rfl rfl rfl rfl
noncomputable abbrev eReady : Ent := .st (conS (P := Try.prog) (f := f_l31_ready) fun cargs σ0 => match cargs, σ0 with
  | [], [] => some ⟨.ret (.tup [.agg rdK.sv, .s (.loc 0 0)]) [.blk 65 [.sl 1 0 1024 1024], .own 5 1 1024 (bytesI Ram.z.l)], fun K h => ready_c K h⟩
  | _, _ => none)
end Go.Proofs

namespace Go.Proofs
open Go Go.Sx
set_option maxRecDepth 10000
def wm0 : Ram := Ram.z.set (-2147483448) (-2147483648)
def wm1 : Ram := wm0.set (-2147483444) (-2147483136)
def wk0 : Core := ⟨0, 0, 0, -2147483048, -2147483520, 1, true, false, false, false, 0, 0, 0, 0, 0, 0, 0, 0, 0, 0, false, 0, 0, 0, 0, 0, false, 0⟩
def wm2 : Ram := (execR (rdK.abc (0) (0) (0)) wm1 15 67).2.2
theorem wx0 : execR (rdK.abc (0) (0) (0)) wm1 15 67 = (wk0, 0, wm2) := by kernel_rfl
def wk1 : Core := ⟨1, 9, 9, -2147483048, -2147483520, 1, true, false, false, false, 0, 0, 0, 0, 0, 0, 0, 0, 0, 0, false, 0, 0, 0, 0, 0, false, 0⟩
def wm3 : Ram := (execR (rdK.abc (1) (-2147483448) (9)) wm2 15 72).2.2
theorem wx1 : execR (rdK.abc (1) (-2147483448) (9)) wm2 15 72 = (wk1, 0, wm3) := by kernel_rfl
def wk2 : Core := ⟨1, 9, 9, -2147483048, -2147483520, 1, true, false, false, false, 0, 0, 0, 0, 0, 0, 0, 0, 0, 0, false, 0, 0, 0, 0, 0, false, 0⟩
def wm4 : Ram := (execR (rdK.abc (1) (-2147483444) (9)) wm3 15 72).2.2
theorem wx2 : execR (rdK.abc (1) (-2147483444) (9)) wm3 15 72 = (wk2, 0, wm4) := by kernel_rfl
def wk3 : Core := ⟨0, 0, 0, -2147483048, -2147483520, 1, true, false, false, false, 0, 0, 0, 0, 0, 0, 0, 0, 0, 0, false, 0, 0, 0, 0, 0, false, 0⟩
def wm5 : Ram := (execR (rdK.abc (0) (0) (0)) wm4 15 68).2.2
theorem wx3 : execR (rdK.abc (0) (0) (0)) wm4 15 68 = (wk3, 0, wm5) := by kernel_rfl
def wk4 : Core := ⟨0, 0, 0, -2147483048, -2147483520, 1, true, false, false, false, 0, 0, 0, 0, 0, 0, 0, 0, 0, 0, false, 0, 0, 0, 0, 0, false, 0⟩
def wm6 : Ram := (execR (rdK.abc (5) (1) (-2147483448)) wm5 15 47).2.2
theorem wx4 : execR (rdK.abc (5) (1) (-2147483448)) wm5 15 47 = (wk4, 0, wm6) := by kernel_rfl
def wk5 : Core := ⟨1, 0, 0, -2147483048, -2147483520, 1, true, false, false, false, 0, 0, 0, 0, 0, 0, 0, 0, 0, 0, false, 0, 0, 0, 0, 0, false, 0⟩
def wm7 : Ram := (execR (rdK.abc (7) (1) (-2147483444)) wm6 15 47).2.2
theorem wx5 : execR (rdK.abc (7) (1) (-2147483444)) wm6 15 47 = (wk5, 0, wm7) := by kernel_rfl
def wk6 : Core := ⟨0, 0, 0, -2147483041, -2147483520, 1, true, false, false, false, 0, 0, 0, 0, 0, 0, 0, 0, 0, 0, false, 0, 0, 0, 0, 0, false, 0⟩
def wm8 : Ram := (execR (rdK.abc (0) (0) (0)) wm7 15 69).2.2
theorem wx6 : execR (rdK.abc (0) (0) (0)) wm7 15 69 = (wk6, 0, wm8) := by kernel_rfl
noncomputable abbrev ctWk : CT := [(f_l31_ready, eReady), (f_mem_Mem_SetWord, eSetWordT), (f_l31_exec, eExecL), (f_l31_word, eLword)]
theorem ctWk_ok : CTok Try.prog ctWk := ⟨con_ok cal_l31_ready _, con_ok cal_mem_Mem_SetWord _, con_ok cal_l31_exec _, con_ok cal_l31_word _, trivial⟩
theorem works_c : Con Try.prog f_l31_works [] [] (.ret (.t (.s (.bool true))) []) := by
  intro K hK
  refine enter fn_l31_works rfl nt_l31_works rfl rfl (fun φ w0 β0 F => ?_)
  refine c_run tt_ok ctWk_ok k_l31_works [] 60 (by kernel_rfl) ?_
  refine ⟨Ram.z, ⟨by decide +kernel, by decide +kernel, by decide +kernel, rfl, i32B_ok (by decide +kernel)⟩, wm0, ⟨rfl, rfl, rfl, rfl, i32B_ok (by decide +kernel)⟩, ?_⟩
  refine ⟨(wm1, wk0, 0, wm2), ⟨rfl, rfl, rfl, rfl, ⟨rdK_ok, i32B_ok (by decide +kernel), i32B_ok (by decide +kernel), i32B_ok (by decide +kernel)⟩, wx0⟩, ?_⟩
  repeat (first | (refine ⟨fun _ => ?_, fun h => absurd h (by decide +kernel)⟩) | (refine ⟨wm2, ⟨rfl, rfl, rfl, rfl, i32B_ok (by decide +kernel)⟩, ?_⟩))
  refine ⟨(wm2, wk1, 0, wm3), ⟨rfl, rfl, rfl, rfl, ⟨rdK_ok, i32B_ok (by decide +kernel), i32B_ok (by decide +kernel), i32B_ok (by decide +kernel)⟩, wx1⟩, ?_⟩
  repeat (first | (refine ⟨fun _ => ?_, fun h => absurd h (by decide +kernel)⟩) | (refine ⟨wm3, ⟨rfl, rfl, rfl, rfl, i32B_ok (by decide +kernel)⟩, ?_⟩))
  refine ⟨(wm3, wk2, 0, wm4), ⟨rfl, rfl, rfl, rfl, ⟨rdK_ok, i32B_ok (by decide +kernel), i32B_ok (by decide +kernel), i32B_ok (by decide +kernel)⟩, wx2⟩, ?_⟩
  repeat (first | (refine ⟨fun _ => ?_, fun h => absurd h (by decide +kernel)⟩) | (refine ⟨wm4, ⟨rfl, rfl, rfl, rfl, i32B_ok (by decide +kernel)⟩, ?_⟩))
  refine ⟨(wm4, wk3, 0, wm5), ⟨rfl, rfl, rfl, rfl, ⟨rdK_ok, i32B_ok (by decide +kernel), i32B_ok (by decide +kernel), i32B_ok (by decide +kernel)⟩, wx3⟩, ?_⟩
  repeat (first | (refine ⟨fun _ => ?_, fun h => absurd h (by decide +kernel)⟩) | (refine ⟨wm5, ⟨rfl, rfl, rfl, rfl, i32B_ok (by decide +kernel)⟩, ?_⟩))
  refine ⟨(wm5, wk4, 0, wm6), ⟨rfl, rfl, rfl, rfl, ⟨rdK_ok, i32B_ok (by decide +kernel), i32B_ok (by decide +kernel), i32B_ok (by decide +kernel)⟩, wx4⟩, ?_⟩
  repeat (first | (refine ⟨fun _ => ?_, fun h => absurd h (by decide +kernel)⟩) | (refine ⟨wm6, ⟨rfl, rfl, rfl, rfl, i32B_ok (by decide +kernel)⟩, ?_⟩))
  refine ⟨(wm6, wk5, 0, wm7), ⟨rfl, rfl, rfl, rfl, ⟨rdK_ok, i32B_ok (by decide +kernel), i32B_ok (by decide +kernel), i32B_ok (by decide +kernel)⟩, wx5⟩, ?_⟩
  repeat (first | (refine ⟨fun _ => ?_, fun h => absurd h (by decide +kernel)⟩) | (refine ⟨wm7, ⟨rfl, rfl, rfl, rfl, i32B_ok (by decide +kernel)⟩, ?_⟩))
  refine ⟨(wm7, wk6, 0, wm8), ⟨rfl, rfl, rfl, rfl, ⟨rdK_ok, i32B_ok (by decide +kernel), i32B_ok (by decide +kernel), i32B_ok (by decide +kernel)⟩, wx6⟩, ?_⟩
  refine fin_k tt_ok (rs := rs_l31_works) rfl rfl hK [] ?_ rfl rfl rfl rfl rfl
  refine t1b ?_
  decide +kernel
def spWorks : List TV → Option (Prop × FV)
  | [] => some (True, .t (.s (.bool true)))
  | _ => none
theorem ceWorks : CEok Try.prog f_l31_works spWorks := ⟨cal_l31_works, fun args p v h hp => by
  unfold spWorks at h; split at h
  · cases h; exact works_c.pure
  · cases h⟩
end Go.Proofs

namespace Go.Proofs
open Go Go.Sx
set_option maxRecDepth 10000
theorem RMine_c (fn arg : Int) : Con Try.prog f_r31_Mine [.agg [.int .u8 fn, .int .i32 arg]] [] (.ret (.t (.s (.bool (mineB fn arg)))) []) := by
  intro K hK
  refine enter fn_r31_Mine rfl nt_r31_Mine rfl rfl (fun φ w0 β0 F => ?_)
  refine c_run tt_ok (ct := []) trivial k_r31_Mine [] 60 (by kernel_rfl) ?_
  refine ⟨fun h => ?_, fun h => ?_⟩
  · have h' : (fn == 15) = false := by simpa using h
    rw [show mineB fn arg = false by simp only [mineB, h', cond_false]] at hK
    exact fin_k tt_ok (rs := rs_r31_Mine) rfl rfl hK [] rfl rfl rfl rfl rfl rfl
  · have h' : (fn == 15) = true := by simpa using h
    refine fin_k tt_ok (rs := rs_r31_Mine) rfl rfl hK [] ?_ rfl rfl rfl rfl rfl
    refine t1b ?_
    simp only [mineB, isOp, h', cond_true]
    generalize (arg == 67) = q1
    generalize (arg == 73) = q2
    generalize (arg == 72) = q3
    generalize (arg == 68) = q4
    generalize (arg == 48) = q5
    generalize (arg == 47) = q6
    generalize (arg == 69) = q7
    cases q1 <;> cases q2 <;> cases q3 <;> cases q4 <;> cases q5 <;> cases q6 <;> cases q7 <;> rfl
def spRMine : List TV → Option (Prop × FV)
  | [.agg [.int .u8 fn, .int .i32 arg]] => some (True, .t (.s (.bool (mineB fn arg))))
  | _ => none
theorem ceRMine : CEok Try.prog f_r31_Mine spRMine := ⟨cal_r31_Mine, fun args p v h hp => by
  unfold spRMine at h; split at h
  · cases h; exact (RMine_c _ _).pure
  · cases h⟩
noncomputable abbrev ctAM : CT := [(f_alt_Mine, .pure spMine), (f_r31_Mine, .pure spRMine), (f_l31_works, .pure spWorks)]
theorem ctAM_ok : CTok Try.prog ctAM := ⟨ceMine, ceRMine, ceWorks, trivial⟩
theorem AltMine_c (fn arg o : Int) : Con Try.prog f_l31_AltMine [.agg [.int .u8 fn, .int .i32 arg], .s (.int .u8 o)] [] (.ret (.t (.s (.bool true))) []) := by
  intro K hK
  refine enter fn_l31_AltMine rfl nt_l31_AltMine rfl rfl (fun φ w0 β0 F => ?_)
  refine c_run tt_ok ctAM_ok k_l31_AltMine [] 60 (by kernel_rfl) ?_
  have e : ∀ a : Bool, (a == a) = true := by decide
  refine ⟨trivial, trivial, fun _ => trivial, fun _ => trivial, fun _ => trivial, ?_⟩
  refine fin_k tt_ok (rs := rs_l31_AltMine) rfl rfl hK [] ?_ rfl rfl rfl rfl rfl
  refine t1b ?_
  rw [e, e]; rfl
end Go.Proofs

namespace Go.Proofs
open Go Go.Sx
set_option maxRecDepth 10000
/-- 1024 bytes that begin with these. -/
def memL (l : List Int) (z : Nat) : List Int := l.take 1024 ++ List.replicate z 0
theorem memL_length (l : List Int) (z : Nat) : (memL l z).length = min 1024 l.length + z := by simp [memL]
theorem memory_c (l : List Int) (cap : Nat) (hc : l.length ≤ cap) (hm : cap ≤ maxLen) : Con Try.prog f_l31_memory [.s (.sl 0 0 l.length cap)] [.view (bytesI l)]
    (.all Nat (fun c => 1024 ≤ c) fun c => .ret (.t (.s (.sl 1 0 1024 c))) [.view (bytesI l), .own 5 1 c (bytesI (memL l (1024 - min l.length 1024)))]) := by
  intro K hK
  have hm' : cap ≤ 9223372036854775807 := hm
  refine enter fn_l31_memory rfl nt_l31_memory rfl rfl (fun φ w0 β0 F => ?_)
  refine c_run tt_ok (ct := []) trivial k_l31_memory [] 60 (by kernel_rfl) ?_
  refine ⟨0, min l.length 1024, ⟨_, _, rfl, rfl, rfl, ?_⟩, ⟨by omega, by omega⟩, ?_⟩
  · show (if (1024 : Int) < (l.length : Int) then (1024 : Int) else (l.length : Int)) = _
    split <;> omega
  refine ⟨⟨by simp [seg], one_seg (one_seg (bytesI_one _)), by simp only [maxLen]; omega, by omega⟩, fun c1 h1 h1' => ?_⟩
  show WpC _ _ _ _ _
  refine c_loop (α := Nat × Nat) (fun x => x.1 ≤ 1024 - min l.length 1024 ∧ min l.length 1024 + x.1 ≤ x.2) (fun x => 1024 - x.1)
    (fun x => [(0, .t (.s (.sl 0 0 l.length cap)), none), (3, .t (.s (.sl 1 0 (memL l x.1).length x.2)), none)])
    (fun x => [.view (bytesI l), .own 5 1 x.2 (bytesI (memL l x.1))]) (0, c1) ⟨Nat.zero_le _, by simpa using h1⟩ ?_ ?_
  · refine into [0, 3] ⟨⟨_, rfl, rfl⟩, ⟨_, rfl, ?_⟩, trivial⟩ ⟨_, rfl, ?_⟩ rfl rfl rfl rfl
    · simp [FV.rn, TV.rn, SV.rn, memL, Nat.min_comm]
    · simp only [seg_bytesI, memL, List.drop_zero]
      have e : ((List.take ((min l.length 1024 - 0) * 1) (List.drop (0 + 0 * 1) l)).take ((min l.length 1024 - 0) * 1)) = List.take 1024 l ++ List.replicate 0 0 := by
        simp
        rcases Nat.le_total l.length 1024 with h | h
        · rw [Nat.min_eq_left h, List.take_of_length_le (by simp), List.take_of_length_le (Nat.le_refl _), List.take_of_length_le h]
        · rw [Nat.min_eq_right h, List.take_take, Nat.min_self]
      rw [e]; rfl
  · rintro ⟨i, c⟩ ⟨hi, hic⟩
    simp only at hi hic
    dsimp only
    refine c_run' tt_ok (ct := []) trivial k_l31_memory [] 60 (by kernel_rfl) (by kernel_rfl) ?_
    refine ⟨fun h4 => ?_, fun h4 => ?_⟩
    · simp only [decide_eq_true_eq, memL_length] at h4
      refine ⟨⟨rfl, by simp, by simp [memL] <;> omega, one_u rfl, by simp [maxLen, memL]; omega, by simp [memL]; omega⟩, fun c1 hc1 hc2 => ?_⟩
      refine e_again (i + 1, c1) ⟨by simp only; omega, by simp [memL] at hc1; simp only; omega⟩ (by simp; omega) (into [0, 3] ⟨⟨_, rfl, rfl⟩, ⟨_, rfl, ?_⟩, trivial⟩ ⟨_, rfl, ?_⟩ rfl rfl rfl rfl)
      · simp [FV.rn, TV.rn, SV.rn, memL]; omega
      · have e : bytesI (memL l i) ++ seg [(SV.int IntKind.u8 0).cv] 0 1 = bytesI (memL l (i + 1)) := by
          rw [show seg [(SV.int IntKind.u8 0).cv] 0 1 = bytesI [0] from rfl, ← bytesI_append]
          unfold memL; rw [List.append_assoc, List.replicate_succ']
        rw [← e]; rfl
    · simp only [decide_eq_false_iff_not, memL_length] at h4
      have e : i = 1024 - min l.length 1024 := by omega
      subst e
      refine fin_k tt_ok (rs := rs_l31_memory) rfl rfl (hK c ?_) [0, 1] ?_ rfl rfl rfl rfl rfl
      · omega
      · rw [memL_length, show min 1024 l.length + (1024 - min l.length 1024) = 1024 by omega]; rfl
end Go.Proofs

namespace Go.Proofs
open Go Go.Sx
set_option maxRecDepth 10000
theorem u8_fit {x : Int} (h : (Lit.int .u8 x).wf = true) : 0 ≤ x ∧ x < 256 := by
  simp [Lit.wf, IntKind.min, IntKind.max, IntKind.signed, IntKind.bits] at h
  omega
theorem i64_fit {x : Int} (h : (Lit.int .i64 x).wf = true) : -9223372036854775808 ≤ x ∧ x ≤ 9223372036854775807 := by
  simp [Lit.wf, IntKind.min, IntKind.max, IntKind.signed, IntKind.bits] at h
  omega
def memR (l : List Int) (hl : ∀ b ∈ l, 0 ≤ b ∧ b < 256) : Ram := ⟨memL l (1024 - min l.length 1024), by rw [memL_length]; omega, by rw [memL_length]; omega, by rw [memL_length]; omega, by
  intro b hb; unfold memL at hb; rcases List.mem_append.1 hb with h | h
  · exact hl b (List.mem_of_mem_take h)
  · rw [List.mem_replicate] at h; omega⟩
theorem memR_length (l : List Int) (hl) : (memR l hl).l.length = 1024 := by show (memL l _).length = _; rw [memL_length]; omega
theorem From_o (l : List Int) (cap : Nat) : Con Try.prog f_mem_From [.s (.sl 0 0 l.length cap)] [.own 5 1 cap (bytesI l)] (.br (mayM l.length)
    (.ret (.tup [.s (.loc 1 0), .s (.int .i64 0)]) [.own 5 1 cap (bytesI l), .blk 65 [.sl 2 0 l.length l.length], mOwn l])
    (.ret (.tup [.s (.raw (.pointer none)), .s (.int .i64 2)]) [.own 5 1 cap (bytesI l)])) := by
  intro K ⟨hK1, hK2⟩
  refine enter fn_mem_From rfl nt_mem_From rfl rfl (fun φ w0 β0 F => ?_)
  refine c_run tt_ok ctM_ok k_mem_From [] 60 (by kernel_rfl) ?_
  refine ⟨fun h => ?_, fun h => ?_⟩
  · have hb : mayM l.length = false := by simpa using h
    exact fin_k tt_ok (rs := rs_mem_From) rfl rfl (hK2 hb) [0] rfl rfl rfl rfl rfl rfl
  · have hb : mayM l.length = true := by simpa using h
    obtain ⟨k, e, h1, h2⟩ := mayM_nat hb
    refine ⟨l.length, ⟨rfl, rfl, by simp only [maxLen]; omega, by omega⟩, ?_⟩
    refine ⟨l.length, ⟨by simp, by simp, by simp, by rw [seg_bytesI]; exact bytesI_one _⟩, ?_⟩
    refine fin_k tt_ok (rs := rs_mem_From) rfl rfl (hK1 hb) [0, 2, 1] rfl ?_ rfl rfl rfl rfl
    show pickL [Ch.own 5 1 cap (bytesI l), Ch.own 5 1 l.length (setV (List.replicate l.length (Value.int .u8 0)) 0 (seg (bytesI l) 0 l.length)), Ch.blk 65 [SV.sl 1 0 l.length l.length]] [0, 2, 1] = _
    rw [copy_all l _ (by simp)]; rfl
noncomputable abbrev eMemory : Ent := .st (conS (P := Try.prog) (f := f_l31_memory) fun cargs σ0 => match cargs, σ0 with
  | [.s (.sl 0 0 n cap)], [.view xs] => some ⟨.ex (List Int) fun l => .ask (xs = bytesI l ∧ n = l.length ∧ l.length ≤ cap ∧ cap ≤ maxLen ∧ ∀ b ∈ l, 0 ≤ b ∧ b < 256)
      (.all Nat (fun c => 1024 ≤ c) fun c => .ret (.t (.s (.sl 1 0 1024 c))) [.view (bytesI l), .own 5 1 c (bytesI (memL l (1024 - min l.length 1024)))]), fun K h => by
      obtain ⟨l, ⟨e1, e2, h1, h2, h3⟩, h⟩ := h
      subst e1; subst e2
      exact memory_c l cap h1 h2 K h⟩
  | _, _ => none)
noncomputable abbrev eFromT : Ent := .st (conS (P := Try.prog) (f := f_mem_From) fun cargs σ0 => match cargs, σ0 with
  | [.s (.sl 0 0 n cap)], [.own 5 1 c xs] => some ⟨.ex Ram fun m => .ask (xs = bytesI m.l ∧ n = m.l.length ∧ c = cap)
      (.ret (.tup [.s (.loc 1 0), .s (.int .i64 0)]) [.own 5 1 cap (bytesI m.l), .blk 65 [.sl 2 0 m.l.length m.l.length], mOwn m.l]), fun K h => by
      obtain ⟨m, ⟨e1, e2, e3⟩, h⟩ := h
      subst e1; subst e2; subst e3
      refine From_o m.l _ K ⟨fun _ => h, fun hb => ?_⟩
      exfalso
      have h1 := m.lo
      have h2 := m.hi
      have h3 := m.al
      unfold mayM at hb
      simp [show (m.l.length : Int) ≥ 1024 by omega, show (m.l.length : Int) ≤ 65536 by omega, (tmod4 _).1 (show (0 : Int) ≤ m.l.length by omega)] at hb
      omega⟩
  | _, _ => none)
noncomputable abbrev eBytesT : Ent := .st (conS (P := Try.prog) (f := f_mem_Mem_Bytes) fun cargs σ0 => match cargs, σ0 with
  | [.s (.loc 0 0)], [.blk 65 [.sl 1 0 n n'], .own 5 1 c xs] => some ⟨.ex Ram fun m => .ask (xs = bytesI m.l ∧ n = m.l.length ∧ n' = m.l.length ∧ c = m.l.length)
      (.ret (.t (.s (.sl 2 0 m.l.length m.l.length))) [mBox m.l.length, mOwn m.l, mOwn m.l]), fun K h => by
      obtain ⟨m, ⟨e1, e2, e3, e4⟩, h⟩ := h
      subst e1; subst e2; subst e3; subst e4
      have := m.lo
      exact Bytes_c m.l m.hi (by omega) K h⟩
  | _, _ => none)
theorem and1_i64 (v : Int) : bits .and .i64 v 1 = v % 2 := by
  have e : bits .and .i64 v 1 = IntKind.i64.wrap ((BitVec.ofInt 64 v &&& BitVec.ofInt 64 1).toNat : Int) := rfl
  have hn : ∀ i, i < 64 → (BitVec.ofInt 64 1).getLsbD i = decide (i < 1) := by decide
  have e1 : BitVec.ofInt 64 v &&& BitVec.ofInt 64 1 = ((BitVec.ofInt 64 v).setWidth 1).setWidth 64 := by
    apply BitVec.eq_of_getLsbD_eq
    intro i hi
    rw [BitVec.getLsbD_and, hn i hi]
    simp only [BitVec.getLsbD_setWidth]
    by_cases h2 : i < 1 <;> simp [h2, hi]
  have e2 : ((((BitVec.ofInt 64 v).setWidth 1).setWidth 64).toNat : Int) = v % 2 := by
    rw [BitVec.toNat_setWidth, BitVec.toNat_setWidth, BitVec.toNat_ofInt]
    have : ((2 ^ 64 : Nat) : Int) = 18446744073709551616 := rfl
    rw [this]; omega
  rw [e, e1, e2, IntKind.wrap_i64]; omega
theorem exec_false (k : Core) (m : Ram) (hp : (k.pri.fdiv 2 != 0) = false) (hb : k.busy = true) :
    (k.a = 0 → execR k m 15 73 = (k, 0, m)) ∧ (k.a = 0 → execR k m 15 72 = ({ k with b := k.c }, 0, m)) ∧ (k.b = 0 → execR k m 15 47 = ({ k with a := 0, b := 0, c := 0 }, 0, m)) ∧ (k.b = 0 → execR k m 15 48 = ({ k with a := 0, b := k.c }, 0, m)) := by
  have h73 : mineB 15 73 = true := by decide
  have h72 : mineB 15 72 = true := by decide
  have h47 : mineB 15 47 = true := by decide
  have h48 : mineB 15 48 = true := by decide
  refine ⟨fun h => ?_, fun h => ?_, fun h => ?_, fun h => ?_⟩
  · have hl : linkedB k 73 = false := by unfold linkedB; simp
    have ho : opM k m 73 = ⟨k, 0, m⟩ := by simp [opM, Mach.enbs, enbsY, Mach.of, h]
    simp [execR, hp, h73, hb, hl, ho, finR, kSel]
    cases k; simp_all
  · have hl : linkedB k 72 = false := by unfold linkedB; simp [h]
    have ho : opM k m 72 = ⟨{ k with b := k.c }, 0, m⟩ := by simp [opM, Mach.enbc, enbcY, Mach.of, h]
    simp [execR, hp, h72, hb, hl, ho, finR, kSel]
  · have hl : linkedB k 47 = false := by unfold linkedB; simp [h]
    have ho : opM k m 47 = ⟨{ k with a := 0, b := 0, c := 0 }, 0, m⟩ := by simp [opM, Mach.disc, discA, discY, Mach.of, h]
    simp [execR, hp, h47, hb, hl, ho, finR, kSel]
  · have hl : linkedB k 48 = false := by unfold linkedB; simp
    have ho : opM k m 48 = ⟨{ k with a := 0, b := k.c }, 0, m⟩ := by simp [opM, Mach.diss, Mach.of, h]
    simp [execR, hp, h48, hb, hl, ho, finR, kSel]
noncomputable abbrev ctAF : CT := [(f_l31_memory, eMemory), (f_mem_From, eFromT), (f_l31_exec, eExecL), (f_mem_Mem_Bytes, eBytesT), (f_l31_works, .pure spWorks)]
theorem ctAF_ok : CTok Try.prog ctAF := ⟨con_ok cal_l31_memory _, con_ok cal_mem_From _, con_ok cal_l31_exec _, con_ok cal_mem_Mem_Bytes _, ceWorks, trivial⟩
theorem AltFalse_c (k : Core) (l : List Int) (cap : Nat) (w ch : Int) (hok : k.ok) (hl : ∀ b ∈ l, 0 ≤ b ∧ b < 256) (hc : l.length ≤ cap) (hm : cap ≤ maxLen) (hch : I32 ch) :
    Con Try.prog f_l31_AltFalse [.agg k.sv, .s (.sl 0 0 l.length cap), .s (.int .u8 w), .s (.int .i32 ch)] [.view (bytesI l)] (.ret (.t (.s (.bool true))) [.view (bytesI l)]) := by
  intro K hK
  obtain ⟨q0, q1, q2, q3, q4, q5, q6, q7, q8, q9, q10, q11, q12, q13, q14, q15, q16, q17, q18, q19, q20, q21, q22, q23, q24, q25, q26, q27⟩ := k
  have hpr := and1_i64 q5
  have hpp : ((bits .and .i64 q5 1).fdiv 2 != 0) = false := by
    rw [hpr]
    rcases (show q5 % 2 = 0 ∨ q5 % 2 = 1 by omega) with h | h <;> rw [h] <;> decide
  have hok2 : Core.ok ⟨q0, q1, q2, q3, (IntKind.i32.wrap (-2147483584 + IntKind.i32.wrap (4 * IntKind.i32.wrap (w.tmod 200)))), (bits BinOp.and IntKind.i64 q5 1), true, q7, q8, q9, q10, q11, q12, q13, q14, q15, q16, q17, q18, q19, q20, q21, q22, q23, q24, q25, q26, q27⟩ := ⟨hok.1, hok.2, hok.3, hok.4, I32_wrap _, by constructor <;> (show _ ≤ _) <;> simp only [hpr] <;> omega, hok.7, hok.8, hok.9, hok.10, hok.11, hok.12, hok.13, hok.14, hok.15, hok.16, hok.17, hok.18, hok.19, hok.20, hok.21, hok.22⟩
  refine enter fn_l31_AltFalse rfl nt_l31_AltFalse rfl rfl (fun φ w0 β0 F => ?_)
  refine c_run tt_ok ctAF_ok k_l31_AltFalse [] 60 (by kernel_rfl) ?_
  refine ⟨l, ⟨rfl, rfl, hc, hm, hl⟩, fun c1 hc1 => ?_⟩
  refine ⟨memR l hl, ⟨rfl, (memR_length l hl).symm, rfl⟩, ?_⟩
  refine ⟨(memR l hl, ⟨0, ch, 3, q3, (IntKind.i32.wrap (-2147483584 + IntKind.i32.wrap (4 * IntKind.i32.wrap (w.tmod 200)))), (bits BinOp.and IntKind.i64 q5 1), true, q7, q8, q9, q10, q11, q12, q13, q14, q15, q16, q17, q18, q19, q20, q21, q22, q23, q24, q25, q26, q27⟩, 0, memR l hl), ⟨rfl, rfl, rfl, rfl, ⟨hok2, i32B_ok (by decide +kernel), hch, i32B_ok (by decide +kernel)⟩, (exec_false ⟨0, ch, 3, q3, (IntKind.i32.wrap (-2147483584 + IntKind.i32.wrap (4 * IntKind.i32.wrap (w.tmod 200)))), (bits BinOp.and IntKind.i64 q5 1), true, q7, q8, q9, q10, q11, q12, q13, q14, q15, q16, q17, q18, q19, q20, q21, q22, q23, q24, q25, q26, q27⟩ (memR l hl) hpp rfl).1 rfl⟩, ?_⟩
  refine ⟨(memR l hl, ⟨0, 3, 3, q3, (IntKind.i32.wrap (-2147483584 + IntKind.i32.wrap (4 * IntKind.i32.wrap (w.tmod 200)))), (bits BinOp.and IntKind.i64 q5 1), true, q7, q8, q9, q10, q11, q12, q13, q14, q15, q16, q17, q18, q19, q20, q21, q22, q23, q24, q25, q26, q27⟩, 0, memR l hl), ⟨rfl, rfl, rfl, rfl, ⟨hok2, i32B_ok (by decide +kernel), hch, i32B_ok (by decide +kernel)⟩, (exec_false ⟨0, ch, 3, q3, (IntKind.i32.wrap (-2147483584 + IntKind.i32.wrap (4 * IntKind.i32.wrap (w.tmod 200)))), (bits BinOp.and IntKind.i64 q5 1), true, q7, q8, q9, q10, q11, q12, q13, q14, q15, q16, q17, q18, q19, q20, q21, q22, q23, q24, q25, q26, q27⟩ (memR l hl) hpp rfl).2.1 rfl⟩, ?_⟩
  refine ⟨(memR l hl, ⟨0, 0, 0, q3, (IntKind.i32.wrap (-2147483584 + IntKind.i32.wrap (4 * IntKind.i32.wrap (w.tmod 200)))), (bits BinOp.and IntKind.i64 q5 1), true, q7, q8, q9, q10, q11, q12, q13, q14, q15, q16, q17, q18, q19, q20, q21, q22, q23, q24, q25, q26, q27⟩, 0, memR l hl), ⟨rfl, rfl, rfl, rfl, ⟨hok2, i32B_ok (by decide +kernel), i32B_ok (by decide +kernel), hch⟩, (exec_false ⟨5, 0, ch, q3, (IntKind.i32.wrap (-2147483584 + IntKind.i32.wrap (4 * IntKind.i32.wrap (w.tmod 200)))), (bits BinOp.and IntKind.i64 q5 1), true, q7, q8, q9, q10, q11, q12, q13, q14, q15, q16, q17, q18, q19, q20, q21, q22, q23, q24, q25, q26, q27⟩ (memR l hl) hpp rfl).2.2.1 rfl⟩, ?_⟩
  refine ⟨(memR l hl, ⟨0, ch, ch, q3, (IntKind.i32.wrap (-2147483584 + IntKind.i32.wrap (4 * IntKind.i32.wrap (w.tmod 200)))), (bits BinOp.and IntKind.i64 q5 1), true, q7, q8, q9, q10, q11, q12, q13, q14, q15, q16, q17, q18, q19, q20, q21, q22, q23, q24, q25, q26, q27⟩, 0, memR l hl), ⟨rfl, rfl, rfl, rfl, ⟨hok2, i32B_ok (by decide +kernel), i32B_ok (by decide +kernel), hch⟩, (exec_false ⟨5, 0, ch, q3, (IntKind.i32.wrap (-2147483584 + IntKind.i32.wrap (4 * IntKind.i32.wrap (w.tmod 200)))), (bits BinOp.and IntKind.i64 q5 1), true, q7, q8, q9, q10, q11, q12, q13, q14, q15, q16, q17, q18, q19, q20, q21, q22, q23, q24, q25, q26, q27⟩ (memR l hl) hpp rfl).2.2.2 rfl⟩, ?_⟩
  have hsg : seg (bytesI (memR l hl).l) 0 1024 = bytesI (memR l hl).l := by
    rw [seg_bytesI, List.drop_zero, List.take_of_length_le (by rw [memR_length]; exact Nat.le_refl _)]
  refine c_ways tt_ok ctAF_ok k_l31_AltFalse rfl rfl ?_
  have hsm : seg (bytesI (memR l hl).l) 0 (memR l hl).l.length = bytesI (memR l hl).l := by rw [seg_bytesI, List.drop_zero, List.take_length]
  repeat' (first | exact trivial | (refine ⟨(memR l hl).l, fun _ => ⟨hsg, memR_length l hl⟩, ?_⟩) | (refine ⟨(memR l hl).l, fun _ => ⟨hsm, rfl⟩, ?_⟩) | (refine ⟨memR l hl, ⟨rfl, rfl, rfl, rfl⟩, ?_⟩) | (refine And.intro ?_ ?_) | (intro h; simp at h; done) | (refine fun _ => ?_))
  all_goals
    refine e_run tt_ok ctAF_ok k_l31_AltFalse [] 60 (by kernel_rfl) ?_
    refine fin_k tt_ok (rs := rs_l31_AltFalse) rfl rfl hK [0] ?_ rfl rfl rfl rfl rfl
    refine t1b ?_
    simp
end Go.Proofs

namespace Go.Proofs
open Go Go.Sx
set_option maxRecDepth 10000
def kn0 : Ram := Ram.z
def kk0 : Core := ⟨0, 0, 0, -2147483048, -2147483520, 1, true, false, false, false, 0, 0, 0, 0, 0, 0, 0, 0, 0, 0, false, 0, 0, 0, 0, 0, false, 0⟩
def kc0 : Core := ⟨0, 0, 0, 0, 0, 0, false, false, false, false, 0, 0, 0, 0, 0, 0, 0, 0, 0, 0, false, 0, 0, 0, 0, 0, false, 0⟩
def kn1 : Ram := (execR (kk0.abc (1) (-2147483617) (0)) kn0 15 72).2.2
theorem kx0 : execR (kk0.abc (1) (-2147483617) (0)) kn0 15 72 = (kc0, 8, kn1) := by kernel_rfl
theorem ko0 : kk0.ok := okB_ok (by decide +kernel)
def kk1 : Core := ⟨0, 0, 0, -2147483048, -2147483520, 1, true, false, false, false, 0, 0, 0, 0, 0, 0, 0, 0, 0, 0, false, 0, 0, 0, 0, 0, false, 0⟩
def kc1 : Core := ⟨1, 0, 0, -2147483048, -2147483520, 1, true, false, false, false, 0, 0, 0, 0, 0, 0, 0, 0, 0, 0, false, 0, 0, 0, 0, 0, false, 0⟩
def kn2 : Ram := (execR (kk1.abc (1) (-2147483616) (0)) kn1 15 72).2.2
theorem kx1 : execR (kk1.abc (1) (-2147483616) (0)) kn1 15 72 = (kc1, 0, kn2) := by kernel_rfl
theorem ko1 : kk1.ok := okB_ok (by decide +kernel)
def kk2 : Core := ⟨0, 0, 0, -2147483048, -2147483520, 1, true, false, false, false, 0, 0, 0, 0, 0, 0, 0, 0, 0, 0, false, 0, 0, 0, 0, 0, false, 0⟩
def kc2 : Core := ⟨0, 0, 0, 0, 0, 0, false, false, false, false, 0, 0, 0, 0, 0, 0, 0, 0, 0, 0, false, 0, 0, 0, 0, 0, false, 0⟩
def kn3 : Ram := (execR (kk2.abc (1) (1) (-2147483648)) kn2 15 47).2.2
theorem kx2 : execR (kk2.abc (1) (1) (-2147483648)) kn2 15 47 = (kc2, 8, kn3) := by kernel_rfl
theorem ko2 : kk2.ok := okB_ok (by decide +kernel)
def kk3 : Core := ⟨0, 0, 0, -2147483048, -2147483520, 1, true, false, false, false, 0, 0, 0, 0, 0, 0, 0, 0, 0, 0, false, 0, 0, 0, 0, 0, false, 0⟩
def kc3 : Core := ⟨0, 0, 0, 0, 0, 0, false, false, false, false, 0, 0, 0, 0, 0, 0, 0, 0, 0, 0, false, 0, 0, 0, 0, 0, false, 0⟩
def kn4 : Ram := (execR (kk3.abc (1) (-2147482624) (0)) kn3 15 72).2.2
theorem kx3 : execR (kk3.abc (1) (-2147482624) (0)) kn3 15 72 = (kc3, 4, kn4) := by kernel_rfl
theorem ko3 : kk3.ok := okB_ok (by decide +kernel)
def kk4 : Core := ⟨0, 0, 0, -2147483048, -2147483520, 1, true, false, false, false, 0, 0, 0, 0, 0, 0, 0, 0, 0, 0, false, 0, 0, 0, 0, 0, false, 0⟩
def kc4 : Core := ⟨0, 0, 0, 0, 0, 0, false, false, false, false, 0, 0, 0, 0, 0, 0, 0, 0, 0, 0, false, 0, 0, 0, 0, 0, false, 0⟩
def kn5 : Ram := (execR (kk4.abc (1) (-2147483448) (0)) kn4 15 71).2.2
theorem kx4 : execR (kk4.abc (1) (-2147483448) (0)) kn4 15 71 = (kc4, 280, kn5) := by kernel_rfl
theorem ko4 : kk4.ok := okB_ok (by decide +kernel)
def kk5 : Core := ⟨0, 0, 0, -2147483048, -2147483520, 1, false, false, false, false, 0, 0, 0, 0, 0, 0, 0, 0, 0, 0, false, 0, 0, 0, 0, 0, false, 0⟩
def kc5 : Core := ⟨0, 0, 0, 0, 0, 0, false, false, false, false, 0, 0, 0, 0, 0, 0, 0, 0, 0, 0, false, 0, 0, 0, 0, 0, false, 0⟩
def kn6 : Ram := (execR (kk5.abc (0) (0) (0)) kn5 15 67).2.2
theorem kx5 : execR (kk5.abc (0) (0) (0)) kn5 15 67 = (kc5, 8, kn6) := by kernel_rfl
theorem ko5 : kk5.ok := okB_ok (by decide +kernel)
def kk6 : Core := ⟨0, 0, 0, -2147483048, -2147483520, -1, true, false, false, false, 0, 0, 0, 0, 0, 0, 0, 0, 0, 0, false, 0, 0, 0, 0, 0, false, 0⟩
def kc6 : Core := ⟨0, 0, 0, 0, 0, 0, false, false, false, false, 0, 0, 0, 0, 0, 0, 0, 0, 0, 0, false, 0, 0, 0, 0, 0, false, 0⟩
def kn7 : Ram := (execR (kk6.abc (0) (0) (0)) kn6 15 67).2.2
theorem kx6 : execR (kk6.abc (0) (0) (0)) kn6 15 67 = (kc6, 2, kn7) := by kernel_rfl
theorem ko6 : kk6.ok := okB_ok (by decide +kernel)
def kk7 : Core := ⟨0, 0, 0, -2147483048, -2147483632, 1, true, false, false, false, 0, 0, 0, 0, 0, 0, 0, 0, 0, 0, false, 0, 0, 0, 0, 0, false, 0⟩
def kc7 : Core := ⟨0, 0, 0, -2147483048, -2147483632, 1, true, false, false, false, 0, 0, 0, 0, 0, 0, 0, 0, 0, 0, false, 0, 0, 0, 0, 0, false, 0⟩
def kn8 : Ram := (execR (kk7.abc (0) (0) (0)) kn7 15 67).2.2
theorem kx7 : execR (kk7.abc (0) (0) (0)) kn7 15 67 = (kc7, 0, kn8) := by kernel_rfl
theorem ko7 : kk7.ok := okB_ok (by decide +kernel)
def kk8 : Core := ⟨0, 0, 0, -2147483048, -2147483632, 1, true, false, false, false, 0, 0, 0, 0, 0, 0, 0, 0, 0, 0, false, 0, 0, 0, 0, 0, false, 0⟩
def kc8 : Core := ⟨0, 0, 0, 0, 0, 0, false, false, false, false, 0, 0, 0, 0, 0, 0, 0, 0, 0, 0, false, 0, 0, 0, 0, 0, false, 0⟩
def kn9 : Ram := (execR (kk8.abc (0) (0) (0)) kn8 15 68).2.2
theorem kx8 : execR (kk8.abc (0) (0) (0)) kn8 15 68 = (kc8, 4, kn9) := by kernel_rfl
theorem ko8 : kk8.ok := okB_ok (by decide +kernel)
def kn10 : Ram := kn9.set (-2147483644) (-2147483645)
def kk10 : Core := ⟨0, 0, 0, -2147483048, -2147483632, 1, true, false, false, false, 0, 0, 0, 0, 0, 0, 0, 0, 0, 0, false, 0, 0, 0, 0, 0, false, 0⟩
def kc10 : Core := ⟨0, 0, 0, -2147483048, -2147483632, 1, true, false, false, false, 0, 0, 0, 0, 0, 0, 0, 0, 0, 0, false, 0, 0, 0, 0, 0, false, 0⟩
def kn11 : Ram := (execR (kk10.abc (0) (0) (0)) kn10 15 68).2.2
theorem kx10 : execR (kk10.abc (0) (0) (0)) kn10 15 68 = (kc10, 0, kn11) := by kernel_rfl
theorem ko10 : kk10.ok := okB_ok (by decide +kernel)
def kk11 : Core := ⟨0, 0, 0, -2147483048, -2147483640, 1, true, false, false, false, 0, 0, 0, 0, 0, 0, 0, 0, 0, 0, false, 0, 0, 0, 0, 0, false, 0⟩
def kc11 : Core := ⟨0, 0, 0, 0, 0, 0, false, false, false, false, 0, 0, 0, 0, 0, 0, 0, 0, 0, 0, false, 0, 0, 0, 0, 0, false, 0⟩
def kn12 : Ram := (execR (kk11.abc (1) (0) (0)) kn11 15 73).2.2
theorem kx11 : execR (kk11.abc (1) (0) (0)) kn11 15 73 = (kc11, 4, kn12) := by kernel_rfl
theorem ko11 : kk11.ok := okB_ok (by decide +kernel)
theorem kn9_eq : kn9.l = kn8.l := by kernel_rfl
noncomputable abbrev ctKn : CT := [(f_l31_ready, eReady), (f_mem_Mem_SetWord, eSetWordT), (f_l31_exec, eExecL), (f_mem_Mem_Bytes, eBytesT), (f_alt_Mine, .pure spMine), (f_l31_works, .pure spWorks)]
theorem ctKn_ok : CTok Try.prog ctKn := ⟨con_ok cal_l31_ready _, con_ok cal_mem_Mem_SetWord _, con_ok cal_l31_exec _, con_ok cal_mem_Mem_Bytes _, ceMine, ceWorks, trivial⟩
set_option maxHeartbeats 4000000 in
theorem AltKnown_c : Con Try.prog f_l31_AltKnown [] [] (.ret (.t (.s (.bool true))) []) := by
  intro K hK
  refine enter fn_l31_AltKnown rfl nt_l31_AltKnown rfl rfl (fun φ w0 β0 F => ?_)
  refine c_run tt_ok ctKn_ok k_l31_AltKnown [] 60 (by kernel_rfl) ?_
  refine ⟨(kn0, kc0, 8, kn1), ⟨rfl, rfl, rfl, rfl, ⟨ko0, i32B_ok (by decide +kernel), i32B_ok (by decide +kernel), i32B_ok (by decide +kernel)⟩, kx0⟩, ?_⟩
  refine ⟨(kn1, kc1, 0, kn2), ⟨rfl, rfl, rfl, rfl, ⟨ko1, i32B_ok (by decide +kernel), i32B_ok (by decide +kernel), i32B_ok (by decide +kernel)⟩, kx1⟩, ?_⟩
  refine ⟨(kn2, kc2, 8, kn3), ⟨rfl, rfl, rfl, rfl, ⟨ko2, i32B_ok (by decide +kernel), i32B_ok (by decide +kernel), i32B_ok (by decide +kernel)⟩, kx2⟩, ?_⟩
  refine ⟨(kn3, kc3, 4, kn4), ⟨rfl, rfl, rfl, rfl, ⟨ko3, i32B_ok (by decide +kernel), i32B_ok (by decide +kernel), i32B_ok (by decide +kernel)⟩, kx3⟩, ?_⟩
  refine ⟨(kn4, kc4, 280, kn5), ⟨rfl, rfl, rfl, rfl, ⟨ko4, i32B_ok (by decide +kernel), i32B_ok (by decide +kernel), i32B_ok (by decide +kernel)⟩, kx4⟩, ?_⟩
  refine ⟨(kn5, kc5, 8, kn6), ⟨rfl, rfl, rfl, rfl, ⟨ko5, i32B_ok (by decide +kernel), i32B_ok (by decide +kernel), i32B_ok (by decide +kernel)⟩, kx5⟩, ?_⟩
  refine ⟨(kn6, kc6, 2, kn7), ⟨rfl, rfl, rfl, rfl, ⟨ko6, i32B_ok (by decide +kernel), i32B_ok (by decide +kernel), i32B_ok (by decide +kernel)⟩, kx6⟩, ?_⟩
  refine ⟨(kn7, kc7, 0, kn8), ⟨rfl, rfl, rfl, rfl, ⟨ko7, i32B_ok (by decide +kernel), i32B_ok (by decide +kernel), i32B_ok (by decide +kernel)⟩, kx7⟩, ?_⟩
  refine ⟨kn8, ⟨rfl, rfl, rfl, rfl⟩, ?_⟩
  refine ⟨(kn8, kc8, 4, kn9), ⟨rfl, rfl, rfl, rfl, ⟨ko8, i32B_ok (by decide +kernel), i32B_ok (by decide +kernel), i32B_ok (by decide +kernel)⟩, kx8⟩, ?_⟩
  have hs8 : seg (bytesI kn8.l) 0 kn8.l.length = bytesI kn8.l := by rw [seg_bytesI, List.drop_zero, List.take_length]
  have hs9 : seg (bytesI kn9.l) 0 kn9.l.length = bytesI kn9.l := by rw [seg_bytesI, List.drop_zero, List.take_length]
  repeat' (first | exact trivial | (refine ⟨kn8.l, ⟨hs8, rfl⟩, ?_⟩) | (refine ⟨kn9.l, ⟨hs9, rfl⟩, ?_⟩) | (refine ⟨kn9, ⟨rfl, rfl, rfl, rfl⟩, ?_⟩) | (refine And.intro ?_ ?_))
  all_goals
    refine ⟨kn9, ⟨rfl, rfl, rfl, rfl, i32B_ok (by decide +kernel)⟩, ?_⟩
    refine ⟨(kn10, kc10, 0, kn11), ⟨rfl, rfl, rfl, rfl, ⟨ko10, i32B_ok (by decide +kernel), i32B_ok (by decide +kernel), i32B_ok (by decide +kernel)⟩, kx10⟩, ?_⟩
    refine ⟨(kn11, kc11, 4, kn12), ⟨rfl, rfl, rfl, rfl, ⟨ko11, i32B_ok (by decide +kernel), i32B_ok (by decide +kernel), i32B_ok (by decide +kernel)⟩, kx11⟩, ?_⟩
    repeat (first | (refine ⟨trivial, ?_⟩) | (refine ⟨fun _ => trivial, ?_⟩))
    refine fin_k tt_ok (rs := rs_l31_AltKnown) rfl rfl hK [] ?_ rfl rfl rfl rfl rfl
    refine t1b ?_
    decide +kernel
end Go.Proofs
