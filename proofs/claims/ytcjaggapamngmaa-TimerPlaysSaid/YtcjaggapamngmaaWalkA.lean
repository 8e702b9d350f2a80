/- The core as a record of its cells (printed by genCore.py). -/
import Derived.Test.YtcjaggapamngmaaTt
import Derived.Test.YtcjaggapamngmaaSpec
import Derived.Test.YtcjaggapamngmaaSxC

namespace Go.Proofs
open Go Go.Sx
set_option maxRecDepth 10000
theorem may_c (n : Int) : Con Try.prog f_mem_may [.s (.int .i64 n)] [] (.ret (.t (.s (.bool (mayM n)))) []) := by
  intro K hK
  refine enter fn_mem_may rfl nt_mem_may rfl rfl (fun φ w0 β0 F => ?_)
  refine c_run tt_ok (ct := []) trivial k_mem_may [] 60 (by kernel_rfl) ?_
  exact fin_k tt_ok (rs := rs_mem_may) rfl rfl hK [] rfl rfl rfl rfl rfl rfl
theorem none_c (n c c' : Nat) (xs : List Value) : Con Try.prog f_mem_Mem_none [.s (.loc 0 0)] [.blk 33 [.sl 1 0 n c], .own 5 1 c' xs] (.ret (.t (.s (.bool ((n : Int) == 0)))) [.blk 33 [.sl 1 0 n c], .own 5 1 c' xs]) := by
  intro K hK
  refine enter fn_mem_Mem_none rfl nt_mem_Mem_none rfl rfl (fun φ w0 β0 F => ?_)
  refine c_run tt_ok (ct := []) trivial k_mem_Mem_none [] 60 (by kernel_rfl) ?_
  exact fin_k tt_ok (rs := rs_mem_Mem_none) rfl rfl hK [0, 1] rfl rfl rfl rfl rfl rfl
theorem none_n : Con Try.prog f_mem_Mem_none [.s (.raw (.pointer none))] [] (.ret (.t (.s (.bool true))) []) := by
  intro K hK
  refine enter fn_mem_Mem_none rfl nt_mem_Mem_none rfl rfl (fun φ w0 β0 F => ?_)
  refine c_run tt_ok (ct := []) trivial k_mem_Mem_none [] 60 (by kernel_rfl) ?_
  refine ⟨fun h => (by cases h), fun _ => ⟨fun h => (by cases h), fun _ => ⟨fun h => (by cases h), fun _ => ⟨fun h => (by cases h), fun _ => ⟨fun h => (by cases h), fun _ => ?_⟩⟩⟩⟩⟩
  refine ⟨rfl, ?_⟩
  show WpE _ _ _ _ _
  exact fin_k tt_ok (rs := rs_mem_Mem_none) rfl rfl hK [] rfl rfl rfl rfl rfl rfl
noncomputable abbrev eNone : Ent := .st (conS (P := Try.prog) (f := f_mem_Mem_none) fun cargs σ0 => match cargs, σ0 with
  | [.s (.loc 0 0)], [.blk 33 [.sl 1 0 n c], .own 5 1 c' xs] => some ⟨.ret (.t (.s (.bool ((n : Int) == 0)))) [.blk 33 [.sl 1 0 n c], .own 5 1 c' xs], fun K h => none_c n c c' xs K h⟩
  | _, _ => none)
noncomputable abbrev ctN : CT := [(f_mem_Mem_none, eNone)]
theorem ctN_ok : CTok Try.prog ctN := ⟨con_ok cal_mem_Mem_none _, trivial⟩
theorem span_c (n : Nat) (xs : List Value) (at_ k : Int) (hn : n ≤ 65536) (ha : I32 at_) (hk : 1 ≤ k) (hk' : k ≤ 4294967296) (h0 : 1 ≤ n) : Con Try.prog f_mem_Mem_span [.s (.loc 0 0), .s (.int .i32 at_), .s (.int .i64 k)] [.blk 33 [.sl 1 0 n n], .own 5 1 n xs]
    (.br (spanBad n at_ k) (.ret (.tup [.s (.raw (.slice none 0 0)), .s (.int .i64 4)]) [.blk 33 [.sl 1 0 n n], .own 5 1 n xs])
      (.ret (.tup [.s (.sl 1 (ofAt at_).toNat k.toNat k.toNat), .s (.int .i64 0)]) [.blk 33 [.sl 1 0 n n], .own 5 1 n xs])) := by
  intro K ⟨hK1, hK2⟩
  refine enter fn_mem_Mem_span rfl nt_mem_Mem_span rfl rfl (fun φ w0 β0 F => ?_)
  refine c_run tt_ok ctN_ok k_mem_Mem_span [] 60 (by kernel_rfl) ?_
  unfold I32 at ha
  have e0 : IntKind.i64.wrap (IntKind.i64.wrap at_ - -2147483648) = ofAt at_ := by unfold ofAt; rw [wrap64 (n := at_) (by omega) (by omega), wrap64 (by omega) (by omega)]; omega
  have e1 : IntKind.i64.wrap ((n : Int) - ofAt at_) = n - ofAt at_ := by unfold ofAt; rw [wrap64 (by omega) (by omega)]
  have e2 : (bif decide (IntKind.i64.wrap (IntKind.i64.wrap at_ - -2147483648) ≥ (n : Int)) then true else decide (k > IntKind.i64.wrap ((n : Int) - IntKind.i64.wrap (IntKind.i64.wrap at_ - -2147483648)))) = spanBad n at_ k := by rw [e0, e1]; rfl
  refine ⟨fun h1 => ?_, fun h1 => ⟨fun h2 => ?_, fun h2 => ?_⟩⟩
  · exfalso; simp at h1; omega
  · exact fin_k tt_ok (rs := rs_mem_Mem_span) rfl rfl (hK1 (e2 ▸ h2)) [0, 1] rfl rfl rfl rfl rfl rfl
  · have hb : spanBad n at_ k = false := e2 ▸ h2
    have hi : (0 : Int) ≤ ofAt at_ ∧ ofAt at_ + k ≤ n := by
      unfold spanBad at hb
      by_cases h : ofAt at_ ≥ n
      · simp [h] at hb
      · simp [h] at hb; unfold ofAt at *; omega
    have e3 : IntKind.i64.wrap (IntKind.i64.wrap (IntKind.i64.wrap at_ - -2147483648) + k) = ofAt at_ + k := by rw [e0, wrap64 (by omega) (by omega)]
    refine ⟨(ofAt at_).toNat, (ofAt at_).toNat + k.toNat, (ofAt at_).toNat + k.toNat, ⟨_, _, _, rfl, rfl, rfl, ?_, ?_, ?_⟩, ⟨by omega, by omega, by omega⟩, fun off ho => ?_⟩
    · show _ = _; rw [e0]; omega
    · show _ = _; rw [e3]; omega
    · show _ = _; rw [e3]; omega
    · have ho' := ho (by omega)
      have ho2 : off = (ofAt at_).toNat := by rw [ho']; simp
      subst ho2
      refine fin_k tt_ok (rs := rs_mem_Mem_span) rfl rfl (hK2 hb) [0, 1] ?_ rfl rfl rfl rfl rfl
      rw [show (ofAt at_).toNat + k.toNat - (ofAt at_).toNat = k.toNat by omega]
      rfl
end Go.Proofs

namespace Go.Proofs
open Go Go.Sx
set_option maxRecDepth 10000
theorem andNot3_i32 {v : Int} (h : I32 v) : bits .andNot .i32 v 3 = v - v % 4 := by
  have e : bits .andNot .i32 v 3 = IntKind.i32.wrap ((BitVec.ofInt 32 v &&& ~~~ BitVec.ofInt 32 3).toNat : Int) := rfl
  have hn : ∀ i, i < 32 → (~~~ BitVec.ofInt 32 3).getLsbD i = decide (2 ≤ i) := by decide
  have e1 : BitVec.ofInt 32 v &&& ~~~ BitVec.ofInt 32 3 = (BitVec.ofInt 32 v >>> 2) <<< 2 := by
    apply BitVec.eq_of_getLsbD_eq
    intro i hi
    rw [BitVec.getLsbD_and, hn i hi, BitVec.getLsbD_shiftLeft, BitVec.getLsbD_ushiftRight]
    by_cases h2 : 2 ≤ i
    · have : ¬ i < 2 := by omega
      simp [h2, this, hi, show 2 + (i - 2) = i by omega]
    · have : i < 2 := by omega
      simp [h2, this]
  have e2 : (((BitVec.ofInt 32 v >>> 2) <<< 2).toNat : Int) = v % 4294967296 / 4 * 4 := by
    rw [BitVec.toNat_shiftLeft, BitVec.toNat_ushiftRight, BitVec.toNat_ofInt, Nat.shiftLeft_eq, Nat.shiftRight_eq_div_pow]
    have : ((2 ^ 32 : Nat) : Int) = 4294967296 := rfl
    rw [this]; omega
  rw [e, e1, e2, IntKind.wrap_i32]
  unfold I32 at h; omega
noncomputable abbrev eSpan : Ent := .st (conS (P := Try.prog) (f := f_mem_Mem_span) fun cargs σ0 => match cargs, σ0 with
  | [.s (.loc 0 0), .s (.int .i32 a), .s (.int .i64 k)], [.blk 33 [.sl 1 0 n n'], .own 5 1 c xs] => some ⟨.ask (n' = n ∧ c = n ∧ n ≤ 65536 ∧ I32 a ∧ 1 ≤ k ∧ k ≤ 4294967296 ∧ 1 ≤ n)
      (.br (spanBad n a k) (.ret (.tup [.s (.raw (.slice none 0 0)), .s (.int .i64 4)]) [.blk 33 [.sl 1 0 n n], .own 5 1 n xs])
        (.ret (.tup [.s (.sl 1 (ofAt a).toNat k.toNat k.toNat), .s (.int .i64 0)]) [.blk 33 [.sl 1 0 n n], .own 5 1 n xs])), fun K h => by
      obtain ⟨⟨e1, e2, h1, h2, h3, h4, h5⟩, h6⟩ := h
      subst e1; subst e2
      exact span_c _ xs a k h1 h2 h3 h4 h5 K h6⟩
  | _, _ => none)
noncomputable abbrev ctS : CT := [(f_mem_Mem_span, eSpan)]
theorem ctS_ok : CTok Try.prog ctS := ⟨con_ok cal_mem_Mem_span _, trivial⟩
def wAt (a : Int) : Int := a - a % 4
theorem wAt_i32 {a : Int} (h : I32 a) : I32 (wAt a) := by unfold I32 at *; unfold wAt; omega
theorem word_c (n : Nat) (xs : List Value) (at_ : Int) (hn : n ≤ 65536) (ha : I32 at_) (h0 : 1 ≤ n) : Con Try.prog f_mem_Mem_word [.s (.loc 0 0), .s (.int .i32 at_)] [.blk 33 [.sl 1 0 n n], .own 5 1 n xs]
    (.br (spanBad n (wAt at_) 4) (.ret (.tup [.s (.raw (.slice none 0 0)), .s (.int .i64 4)]) [.blk 33 [.sl 1 0 n n], .own 5 1 n xs])
      (.ret (.tup [.s (.sl 1 (ofAt (wAt at_)).toNat 4 4), .s (.int .i64 0)]) [.blk 33 [.sl 1 0 n n], .own 5 1 n xs])) := by
  intro K ⟨hK1, hK2⟩
  refine enter fn_mem_Mem_word rfl nt_mem_Mem_word rfl rfl (fun φ w0 β0 F => ?_)
  refine c_run tt_ok ctS_ok k_mem_Mem_word [] 60 (by kernel_rfl) ?_
  have e : bits .andNot .i32 at_ 3 = wAt at_ := andNot3_i32 ha
  rw [← e] at hK1 hK2
  refine ⟨⟨rfl, rfl, hn, e ▸ wAt_i32 ha, by decide, by decide, h0⟩, fun h => ?_, fun h => ?_⟩
  · exact fin_k tt_ok (rs := rs_mem_Mem_word) rfl rfl (hK1 h) [0, 1] rfl rfl rfl rfl rfl rfl
  · exact fin_k tt_ok (rs := rs_mem_Mem_word) rfl rfl (hK2 h) [0, 1] rfl rfl rfl rfl rfl rfl
theorem spanBad_i {n : Nat} {a k : Int} (ha : I32 a) (h : spanBad n a k = false) : 0 ≤ ofAt a ∧ ofAt a + k ≤ n ∧ ofAt a < n := by
  unfold spanBad at h
  unfold I32 at ha
  by_cases h' : ofAt a ≥ n
  · simp [h'] at h
  · simp [h'] at h; unfold ofAt at *; omega
theorem or_u32 {a b : Int} {k : Nat} (a0 : 0 ≤ a) (a1 : a < 2 ^ k) (b0 : 0 ≤ b) (hb : a + 2 ^ k * b < 4294967296) : bits .or .u32 a (2 ^ k * b) = a + 2 ^ k * b := by
  have e : bits .or .u32 a (2 ^ k * b) = IntKind.u32.wrap ((BitVec.ofInt 32 a ||| BitVec.ofInt 32 (2 ^ k * b)).toNat : Int) := rfl
  have hp := pow2_pos k
  have hm := Int.mul_nonneg (show (0 : Int) ≤ 2 ^ k by omega) b0
  obtain ⟨A, rfl⟩ : ∃ A : Nat, a = A := ⟨_, (Int.toNat_of_nonneg a0).symm⟩
  obtain ⟨B, rfl⟩ : ∃ B : Nat, b = B := ⟨_, (Int.toNat_of_nonneg b0).symm⟩
  have c : (2 : Int) ^ k * (B : Int) = ((2 ^ k * B : Nat) : Int) := by simp
  rw [c] at hb hm e ⊢
  have a1' : A < 2 ^ k := by have : (A : Int) < ((2 ^ k : Nat) : Int) := by simpa using a1
                             omega
  rw [e, BitVec.ofInt_natCast, BitVec.ofInt_natCast, BitVec.toNat_or, BitVec.toNat_ofNat, BitVec.toNat_ofNat, Nat.mod_eq_of_lt (by omega), Nat.mod_eq_of_lt (by omega), Nat.or_comm, ← Nat.two_pow_add_eq_or_of_lt a1', IntKind.wrap_u32]
  omega
/-- The word at place i. -/
def getW (l : List Int) (i : Nat) : Int := Wd (l.getD i 0 + 256 * l.getD (i + 1) 0 + 65536 * l.getD (i + 2) 0 + 16777216 * l.getD (i + 3) 0)
noncomputable abbrev eWord_ : Ent := .st (conS (P := Try.prog) (f := f_mem_Mem_word) fun cargs σ0 => match cargs, σ0 with
  | [.s (.loc 0 0), .s (.int .i32 a)], [.blk 33 [.sl 1 0 n n'], .own 5 1 c xs] => some ⟨.ask (n' = n ∧ c = n ∧ n ≤ 65536 ∧ I32 a ∧ 1 ≤ n)
      (.br (spanBad n (wAt a) 4) (.ret (.tup [.s (.raw (.slice none 0 0)), .s (.int .i64 4)]) [.blk 33 [.sl 1 0 n n], .own 5 1 n xs])
        (.ret (.tup [.s (.sl 1 (ofAt (wAt a)).toNat 4 4), .s (.int .i64 0)]) [.blk 33 [.sl 1 0 n n], .own 5 1 n xs])), fun K h => by
      obtain ⟨⟨e1, e2, h1, h2, h3⟩, h6⟩ := h
      subst e1; subst e2
      exact word_c _ xs a h1 h2 h3 K h6⟩
  | _, _ => none)
noncomputable abbrev ctW : CT := [(f_mem_Mem_word, eWord_)]
theorem ctW_ok : CTok Try.prog ctW := ⟨con_ok cal_mem_Mem_word _, trivial⟩
theorem Word_c (l : List Int) (at_ : Int) (hn : l.length ≤ 65536) (ha : I32 at_) (h0 : 1 ≤ l.length) (hl : ∀ b ∈ l, 0 ≤ b ∧ b < 256) : Con Try.prog f_mem_Mem_Word [.s (.loc 0 0), .s (.int .i32 at_)] [mBox l.length, mOwn l]
    (.br (spanBad l.length (wAt at_) 4) (.ret (.tup [.s (.int .i32 0), .s (.int .i64 4)]) [mBox l.length, mOwn l])
      (.ret (.tup [.s (.int .i32 (getW l (ofAt (wAt at_)).toNat)), .s (.int .i64 0)]) [mBox l.length, mOwn l])) := by
  intro K ⟨hK1, hK2⟩
  refine enter fn_mem_Mem_Word rfl nt_mem_Mem_Word rfl rfl (fun φ w0 β0 F => ?_)
  refine c_run tt_ok ctW_ok k_mem_Mem_Word [] 60 (by kernel_rfl) ?_
  refine ⟨⟨rfl, rfl, hn, ha, h0⟩, fun h => ⟨fun h2 => ?_, fun h2 => ?_⟩, fun h => ⟨fun h2 => ?_, fun h2 => ?_⟩⟩
  · exact fin_k tt_ok (rs := rs_mem_Mem_Word) rfl rfl (hK1 h) [0, 1] rfl rfl rfl rfl rfl rfl
  · exact absurd h2 (by decide)
  · exact absurd h2 (by decide)
  · have hi := spanBad_i (wAt_i32 ha) h
    generalize hI : (ofAt (wAt at_)).toNat = i at *
    have g : ∀ k, k < 4 → (bytesI l)[i + k * (0 + 1)]? = some (SV.int .u8 (l.getD (i + k) 0)).cv := fun k hk => by
      rw [Nat.zero_add, Nat.mul_one]; exact bytesI_at (by omega)
    have hx : ∀ k, k < 4 → 0 ≤ l.getD (i + k) 0 ∧ l.getD (i + k) 0 < 256 := fun k hk => by
      have : l.getD (i + k) 0 ∈ l := by
        rw [List.getD_eq_getElem?_getD, List.getElem?_eq_getElem (by omega)]; exact List.getElem_mem _
      exact hl _ this
    refine ⟨0, ⟨rfl, by omega, by simp; omega⟩, .int .u8 (l.getD (i + 0) 0), rfl, g 0 (by decide), ?_⟩
    refine ⟨1, ⟨rfl, by omega, by simp; omega⟩, .int .u8 (l.getD (i + 1) 0), rfl, g 1 (by decide), ?_⟩
    refine ⟨2, ⟨rfl, by omega, by simp; omega⟩, .int .u8 (l.getD (i + 2) 0), rfl, g 2 (by decide), ?_⟩
    refine ⟨3, ⟨rfl, by omega, by simp; omega⟩, .int .u8 (l.getD (i + 3) 0), rfl, g 3 (by decide), ?_⟩
    refine fin_k tt_ok (rs := rs_mem_Mem_Word) rfl rfl (hK2 h) [0, 1] (t2 ?_ rfl) rfl rfl rfl rfl rfl
    have h0' := hx 0 (by decide)
    have h1' := hx 1 (by decide)
    have h2' := hx 2 (by decide)
    have h3' := hx 3 (by decide)
    unfold getW
    generalize l.getD (i + 1) 0 = b1 at *
    generalize l.getD (i + 2) 0 = b2 at *
    generalize l.getD (i + 3) 0 = b3 at *
    simp only [Nat.add_zero] at h0' ⊢
    generalize l.getD i 0 = b0 at *
    have e : ∀ {b : Int} {k : Nat}, 0 ≤ b → b < 256 → k ≤ 24 → IntKind.u32.wrap (IntKind.u32.wrap b * 2 ^ min k IntKind.u32.bits) = 2 ^ k * b := fun {b k} hb hb' hk => by
      have e1 : min k IntKind.u32.bits = k := Nat.min_eq_left (Nat.le_trans hk (by decide))
      have e2 : (2 : Int) ^ k ≤ 16777216 := by
        have : (16777216 : Int) = 2 ^ k * 2 ^ (24 - k) := by rw [← pow_split hk]; decide
        have h3 := pow2_pos (24 - k)
        have h4 := pow2_pos k
        have := Int.mul_le_mul_of_nonneg_left (show (1 : Int) ≤ 2 ^ (24 - k) by omega) (show (0 : Int) ≤ 2 ^ k by omega)
        omega
      have h4 := pow2_pos k
      have h5 := Int.mul_nonneg hb (show (0 : Int) ≤ 2 ^ k by omega)
      have h6 := Int.mul_le_mul (show b ≤ 255 by omega) e2 (by omega) (by decide)
      rw [e1, IntKind.wrap_u32, IntKind.wrap_u32, Int.emod_eq_of_lt hb (by omega), Int.emod_eq_of_lt h5 (by omega), Int.mul_comm]
    have e0 : IntKind.u32.wrap b0 = b0 := by rw [IntKind.wrap_u32]; omega
    have p8 : (2 : Int) ^ 8 = 256 := by decide
    have p16 : (2 : Int) ^ 16 = 65536 := by decide
    have p24 : (2 : Int) ^ 24 = 16777216 := by decide
    rw [e0, e h1'.1 h1'.2 (by decide), e h2'.1 h2'.2 (by decide), e h3'.1 h3'.2 (by decide), or_u32 (k := 8) h0'.1 (by rw [p8]; omega) h1'.1 (by rw [p8]; omega),
      or_u32 (k := 16) (by rw [p8]; omega) (by rw [p8, p16]; omega) h2'.1 (by rw [p8, p16]; omega), or_u32 (k := 24) (by rw [p8, p16]; omega) (by rw [p8, p16, p24]; omega) h3'.1 (by rw [p8, p16, p24]; omega), wrapW, p8, p16, p24]
end Go.Proofs

namespace Go.Proofs
open Go Go.Sx
set_option maxRecDepth 10000
def byK (v : Int) (k : Nat) : Int := Uw v / 256 ^ k % 256
def stW (l : List Int) (i : Nat) (v : Int) : Nat → List Int
  | 0 => l
  | k + 1 => setL (stW l i v k) (i + k) [byK v k]
def setW (l : List Int) (i : Nat) (v : Int) : List Int := stW l i v 4
theorem stW_length {l : List Int} {i : Nat} {v : Int} (h : i + 4 ≤ l.length) : ∀ k, k ≤ 4 → (stW l i v k).length = l.length
  | 0, _ => rfl
  | k + 1, hk => by
    have ih := stW_length (v := v) h k (by omega)
    unfold stW
    rw [setL_length (by rw [ih]; simp; omega), ih]
theorem byK_prog (v : Int) {k : Nat} (hk : k ≤ 3) : IntKind.u8.wrap ((IntKind.u32.wrap v).fdiv (2 ^ min (IntKind.i64.wrap (8 * (k : Int))).toNat IntKind.u32.bits)) = byK v k := by
  have e1 : min (IntKind.i64.wrap (8 * (k : Int))).toNat IntKind.u32.bits = 8 * k := by
    rw [wrap64 (by omega) (by omega)]
    show min _ 32 = _
    omega
  have e2 : (2 : Int) ^ (8 * k) = 256 ^ k := by rw [Int.pow_mul]; rfl
  have hp : (0 : Int) ≤ 256 ^ k := by rw [← e2]; have := pow2_pos (8 * k); omega
  rw [e1, e2, Int.fdiv_eq_ediv_of_nonneg _ hp, IntKind.wrap_u8, IntKind.wrap_u32]; rfl
theorem SetWord_c (l : List Int) (at_ v : Int) (hn : l.length ≤ 65536) (ha : I32 at_) (h0 : 1 ≤ l.length) : Con Try.prog f_mem_Mem_SetWord [.s (.loc 0 0), .s (.int .i32 at_), .s (.int .i32 v)] [mBox l.length, mOwn l]
    (.br (spanBad l.length (wAt at_) 4) (.ret (.t (.s (.int .i64 4))) [mBox l.length, mOwn l])
      (.ret (.t (.s (.int .i64 0))) [mBox l.length, .own 5 1 l.length (bytesI (setW l (ofAt (wAt at_)).toNat v))])) := by
  intro K ⟨hK1, hK2⟩
  refine enter fn_mem_Mem_SetWord rfl nt_mem_Mem_SetWord rfl rfl (fun φ w0 β0 F => ?_)
  refine c_run tt_ok ctW_ok k_mem_Mem_SetWord [] 60 (by kernel_rfl) ?_
  refine ⟨⟨rfl, rfl, hn, ha, h0⟩, fun h => ?_, fun h => ?_⟩
  · show WpC _ _ _ _ _
    refine c_unroll 1 ?_
    refine c_run' tt_ok ctW_ok k_mem_Mem_SetWord [] 60 (by kernel_rfl) (by kernel_rfl) ?_
    refine ⟨fun h2 => ?_, fun h2 => ?_⟩
    · exact absurd h2 (by decide)
    · exact fin_k tt_ok (rs := rs_mem_Mem_SetWord) rfl rfl (hK1 h) [0, 1] rfl rfl rfl rfl rfl rfl
  · have hi := spanBad_i (wAt_i32 ha) h
    generalize hI : (ofAt (wAt at_)).toNat = i at *
    show WpC _ _ _ _ _
    refine c_loop (α := Nat) (fun k => k ≤ 4) (fun k => 4 - k)
      (fun k => [(2, .t (.s (.int .i32 v)), none), (7, .t (.s (.sl 1 i 4 4)), none), (8, .t (.s (.int .i64 0)), none), (17, .t (.s (.int .i64 4)), none), (18, .t (.s (.int .i64 (k : Int))), none)])
      (fun k => [mBox l.length, .own 5 1 l.length (bytesI (stW l i v k))]) 0 (Nat.zero_le _) ?_ ?_
    · exact into [0, 1] ⟨⟨_, rfl, rfl⟩, ⟨_, rfl, rfl⟩, ⟨_, rfl, rfl⟩, ⟨_, rfl, rfl⟩, ⟨_, rfl, rfl⟩, trivial⟩ ⟨_, rfl, rfl⟩ rfl rfl rfl rfl
    · intro k hk
      have hlen := stW_length (l := l) (i := i) (v := v) (by omega) k hk
      refine c_run' tt_ok ctW_ok k_mem_Mem_SetWord [] 60 (by kernel_rfl) (by kernel_rfl) ?_
      refine ⟨fun h2 => ?_, fun h2 => ?_⟩
      · have h2' := of_decide_eq_true h2
        refine ⟨?_, k, ⟨rfl, by omega, by simp; omega⟩, by show i + k * (0 + 1) + 1 ≤ _; simp; omega, ?_⟩
        · show 0 ≤ IntKind.i64.wrap (8 * (k : Int)); rw [wrap64 (by omega) (by omega)]; omega
        · refine e_again (k + 1) (show k + 1 ≤ 4 by omega) (show 4 - (k + 1) < 4 - k by omega) (into [0, 1] ⟨⟨_, rfl, rfl⟩, ⟨_, rfl, rfl⟩, ⟨_, rfl, rfl⟩, ⟨_, rfl, rfl⟩, ⟨_, rfl, fvi (wrapSucc (by omega))⟩, trivial⟩ ⟨_, rfl, ?_⟩ rfl rfl rfl rfl)
          show [mBox l.length, Ch.own 5 1 l.length (setV (bytesI (stW l i v k)) (i + k * (0 + 1)) (bytesI [IntKind.u8.wrap ((IntKind.u32.wrap v).fdiv (2 ^ min (IntKind.i64.wrap (8 * (k : Int))).toNat IntKind.u32.bits))]))] = _
          rw [byK_prog v (by omega), setV_bytesI, Nat.zero_add, Nat.mul_one]; rfl
      · have hk4 : k = 4 := by have := of_decide_eq_false h2; omega
        subst hk4
        exact fin_k tt_ok (rs := rs_mem_Mem_SetWord) rfl rfl (hK2 h) [0, 1] rfl rfl rfl rfl rfl rfl
end Go.Proofs

namespace Go.Proofs
open Go Go.Sx
set_option maxRecDepth 10000
noncomputable abbrev ctM : CT := [(f_mem_may, .st (conS (P := Try.prog) (f := f_mem_may) fun cargs σ0 => match cargs, σ0 with
  | [.s (.int .i64 n)], [] => some ⟨.ret (.t (.s (.bool (mayM n)))) [], fun K h => may_c n K h⟩
  | _, _ => none))]
theorem ctM_ok : CTok Try.prog ctM := ⟨con_ok cal_mem_may _, trivial⟩
theorem mayM_nat {n : Int} (h : mayM n = true) : ∃ k : Nat, n = k ∧ 1024 ≤ k ∧ k ≤ 65536 := by
  unfold mayM at h
  by_cases h1 : n ≥ 1024 <;> by_cases h2 : n ≤ 65536 <;> simp [h1, h2] at h
  exact ⟨n.toNat, by omega, by omega, by omega⟩
theorem New_c (n : Int) : Con Try.prog f_mem_New [.s (.int .i64 n)] [] (.br (mayM n)
    (.ret (.tup [.s (.loc 0 0), .s (.int .i64 0)]) [mBox n.toNat, .own 5 1 n.toNat (bytesI (List.replicate n.toNat 0))])
    (.ret (.tup [.s (.raw (.pointer none)), .s (.int .i64 2)]) [])) := by
  intro K ⟨hK1, hK2⟩
  refine enter fn_mem_New rfl nt_mem_New rfl rfl (fun φ w0 β0 F => ?_)
  refine c_run tt_ok ctM_ok k_mem_New [] 60 (by kernel_rfl) ?_
  refine ⟨fun h => ?_, fun h => ?_⟩
  · have hb : mayM n = false := by simpa using h
    exact fin_k tt_ok (rs := rs_mem_New) rfl rfl (hK2 hb) [] rfl rfl rfl rfl rfl rfl
  · have hb : mayM n = true := by simpa using h
    obtain ⟨k, rfl, h1, h2⟩ := mayM_nat hb
    refine ⟨k, ⟨rfl, rfl, by simp only [maxLen]; omega, by omega⟩, ?_⟩
    refine fin_k tt_ok (rs := rs_mem_New) rfl rfl (hK1 hb) [1, 0] rfl ?_ rfl rfl rfl rfl
    have e : bytesI (List.replicate k 0) = List.replicate k (Value.int .u8 0) := by simp [bytesI]
    rw [Int.toNat_natCast, e]; rfl
theorem Size_c (n c c' : Nat) (xs : List Value) : Con Try.prog f_mem_Mem_Size [.s (.loc 0 0)] [.blk 33 [.sl 1 0 n c], .own 5 1 c' xs] (.ret (.t (.s (.int .i64 (n : Int)))) [.blk 33 [.sl 1 0 n c], .own 5 1 c' xs]) := by
  intro K hK
  refine enter fn_mem_Mem_Size rfl nt_mem_Mem_Size rfl rfl (fun φ w0 β0 F => ?_)
  refine c_run tt_ok ctN_ok k_mem_Mem_Size [] 60 (by kernel_rfl) ?_
  refine ⟨fun h => ?_, fun h => ?_⟩
  · refine fin_k tt_ok (rs := rs_mem_Mem_Size) rfl rfl hK [0, 1] (t1 ?_) rfl rfl rfl rfl rfl
    simpa using h.symm
  · exact fin_k tt_ok (rs := rs_mem_Mem_Size) rfl rfl hK [0, 1] rfl rfl rfl rfl rfl rfl
theorem copy_all (l : List Int) (zs : List Value) (h : zs.length = l.length) : setV zs 0 (seg (bytesI l) 0 l.length) = bytesI l := by
  rw [seg_bytesI, List.drop_zero, List.take_of_length_le (by omega)]
  unfold setV
  rw [List.take_zero, List.nil_append, List.drop_eq_nil_of_le (by simp; omega), List.append_nil]
theorem copy_full (q : List Int) (zs : List Value) (h : zs.length = q.length) : setV zs 0 (bytesI q) = bytesI q := by
  unfold setV
  rw [List.take_zero, List.nil_append, List.drop_eq_nil_of_le (by simp; omega), List.append_nil]
theorem From_c (l : List Int) (cap : Nat) : Con Try.prog f_mem_From [.s (.sl 0 0 l.length cap)] [.view (bytesI l)] (.br (mayM l.length)
    (.ret (.tup [.s (.loc 1 0), .s (.int .i64 0)]) [.view (bytesI l), .blk 33 [.sl 2 0 l.length l.length], mOwn l])
    (.ret (.tup [.s (.raw (.pointer none)), .s (.int .i64 2)]) [.view (bytesI l)])) := by
  intro K ⟨hK1, hK2⟩
  refine enter fn_mem_From rfl nt_mem_From rfl rfl (fun φ w0 β0 F => ?_)
  refine c_run tt_ok ctM_ok k_mem_From [] 60 (by kernel_rfl) ?_
  refine ⟨fun h => ?_, fun h => ?_⟩
  · have hb : mayM l.length = false := by simpa using h
    exact fin_k tt_ok (rs := rs_mem_From) rfl rfl (hK2 hb) [0] rfl rfl rfl rfl rfl rfl
  · have hb : mayM l.length = true := by simpa using h
    obtain ⟨k, e, h1, h2⟩ := mayM_nat hb
    refine ⟨l.length, ⟨rfl, rfl, by simp only [maxLen]; omega, by omega⟩, ?_⟩
    refine ⟨l.length, ⟨by simp, by simp, by simp, by rw [seg_bytesI]; exact bytesI_one _⟩, ?_⟩
    refine fin_k tt_ok (rs := rs_mem_From) rfl rfl (hK1 hb) [0, 2, 1] rfl ?_ rfl rfl rfl rfl
    show pickL [Ch.view (bytesI l), Ch.own 5 1 l.length (setV (List.replicate l.length (Value.int .u8 0)) 0 (seg (bytesI l) 0 l.length)), Ch.blk 33 [SV.sl 1 0 l.length l.length]] [0, 2, 1] = _
    rw [copy_all l _ (by simp)]; rfl
theorem Bytes_c (l : List Int) (hn : l.length ≤ 65536) (h0 : 1 ≤ l.length) : Con Try.prog f_mem_Mem_Bytes [.s (.loc 0 0)] [mBox l.length, mOwn l]
    (.ret (.t (.s (.sl 2 0 l.length l.length))) [mBox l.length, mOwn l, mOwn l]) := by
  intro K hK
  refine enter fn_mem_Mem_Bytes rfl nt_mem_Mem_Bytes rfl rfl (fun φ w0 β0 F => ?_)
  refine c_run tt_ok ctN_ok k_mem_Mem_Bytes [] 60 (by kernel_rfl) ?_
  refine ⟨fun h => ?_, fun h => ?_⟩
  · simp at h; subst h; simp at h0
  · refine ⟨l.length, ⟨rfl, rfl, by simp only [maxLen]; omega, by omega⟩, ?_⟩
    refine ⟨l.length, ⟨by simp, by simp, by simp, ?_⟩, ?_⟩
    · rw [seg_bytesI]; exact bytesI_one _
    · refine fin_k tt_ok (rs := rs_mem_Mem_Bytes) rfl rfl hK [0, 1, 2] rfl ?_ rfl rfl rfl rfl
      show pickL [mBox l.length, mOwn l, Ch.own 5 1 l.length (setV (List.replicate l.length (Value.int .u8 0)) 0 (seg (bytesI l) 0 l.length))] [0, 1, 2] = _
      rw [copy_all l _ (by simp)]; rfl
noncomputable abbrev ctR : CT := [(f_mem_Mem_none, eNone), (f_mem_Mem_span, eSpan)]
theorem ctR_ok : CTok Try.prog ctR := ⟨con_ok cal_mem_Mem_none _, con_ok cal_mem_Mem_span _, trivial⟩
end Go.Proofs

namespace Go.Proofs
open Go Go.Sx
set_option maxRecDepth 10000
end Go.Proofs

namespace Go.Proofs
open Go Go.Sx
set_option maxRecDepth 10000
/-- The reference's functions. -/
theorem Index_c (a : Int) (ha : I32 a) : Con Try.prog f_r03_Index [.s (.int .i32 a)] [] (.ret (.t (.s (.int .i64 (ofAt a)))) []) := by
  intro K hK
  refine enter fn_r03_Index rfl nt_r03_Index rfl rfl (fun φ w0 β0 F => ?_)
  refine c_run tt_ok (ct := []) trivial k_r03_Index [] 60 (by kernel_rfl) ?_
  unfold I32 at ha
  exact fin_k tt_ok (rs := rs_r03_Index) rfl rfl hK [] (t1 (by rw [wrap64 (n := a) (by omega) (by omega), wrap64 (by omega) (by omega)]; rfl)) rfl rfl rfl rfl rfl
def spIndex : List TV → Option (Prop × FV)
  | [.s (.int .i32 a)] => some (I32 a, .t (.s (.int .i64 (ofAt a))))
  | _ => none
theorem ceIndex : CEok Try.prog f_r03_Index spIndex := ⟨cal_r03_Index, fun args p v h hp => by
  unfold spIndex at h; split at h
  · cases h; exact (Index_c _ hp).pure
  · cases h⟩
def liesB (n a k : Int) : Bool := bif bif decide (k ≥ 0) then decide (ofAt a < n) else false then decide (k ≤ n - ofAt a) else false
theorem lies_span (n : Nat) (a k : Int) (hk : 0 ≤ k) : liesB n a k = !spanBad n a k := by
  unfold liesB spanBad
  by_cases h1 : ofAt a < n <;> by_cases h2 : k ≤ n - ofAt a <;> simp [hk, h1, h2] <;> omega
noncomputable abbrev ctI : CT := [(f_r03_Index, .pure spIndex)]
theorem ctI_ok : CTok Try.prog ctI := ⟨ceIndex, trivial⟩
theorem Lies_c (n a k : Int) (h0 : 0 ≤ n) (hn : n ≤ 4294967296) (ha : I32 a) : Con Try.prog f_r03_Lies [.s (.int .i64 n), .s (.int .i32 a), .s (.int .i64 k)] [] (.ret (.t (.s (.bool (liesB n a k)))) []) := by
  intro K hK
  refine enter fn_r03_Lies rfl nt_r03_Lies rfl rfl (fun φ w0 β0 F => ?_)
  refine c_run tt_ok ctI_ok k_r03_Lies [] 60 (by kernel_rfl) ?_
  refine ⟨ha, ?_⟩
  refine fin_k tt_ok (rs := rs_r03_Lies) rfl rfl hK [] (t1b ?_) rfl rfl rfl rfl rfl
  unfold I32 at ha
  rw [wrap64 (n := n - ofAt a) (by unfold ofAt; omega) (by unfold ofAt; omega)]; rfl
def spLies : List TV → Option (Prop × FV)
  | [.s (.int .i64 n), .s (.int .i32 a), .s (.int .i64 k)] => some (0 ≤ n ∧ n ≤ 4294967296 ∧ I32 a, .t (.s (.bool (liesB n a k))))
  | _ => none
theorem ceLies : CEok Try.prog f_r03_Lies spLies := ⟨cal_r03_Lies, fun args p v h hp => by
  unfold spLies at h; split at h
  · cases h; exact (Lies_c _ _ _ hp.1 hp.2.1 hp.2.2).pure
  · cases h⟩
noncomputable abbrev ctJ : CT := [(f_r03_Index, .pure spIndex), (f_r03_Lies, .pure spLies)]
theorem ctJ_ok : CTok Try.prog ctJ := ⟨ceIndex, ceLies, trivial⟩
end Go.Proofs

namespace Go.Proofs
open Go Go.Sx
set_option maxRecDepth 10000
theorem tmod4 (n : Int) : (0 ≤ n → n.tmod 4 = n % 4) ∧ (n < 0 → n.tmod 4 = -((-n) % 4)) := by
  refine ⟨fun h => Int.tmod_eq_emod_of_nonneg h, fun h => ?_⟩
  have : n = -(-n) := by omega
  rw [this, Int.neg_tmod, Int.tmod_eq_emod_of_nonneg (by omega), Int.neg_neg]
theorem RWord_c (l : List Int) (cap : Nat) (a : Int) (hn : l.length ≤ 65536) (h4 : l.length % 4 = 0) (ha : I32 a) (hl : ∀ b ∈ l, 0 ≤ b ∧ b < 256) : Con Try.prog f_r03_Word [.s (.sl 0 0 l.length cap), .s (.int .i32 a)] [.view (bytesI l)]
    (.br (liesB l.length a 1) (.ret (.tup [.s (.int .i32 (getW l (ofAt (wAt a)).toNat)), .s (.int .i64 0)]) [.view (bytesI l)])
      (.ret (.tup [.s (.int .i32 0), .s (.int .i64 4)]) [.view (bytesI l)])) := by
  intro K ⟨hK1, hK2⟩
  refine enter fn_r03_Word rfl nt_r03_Word rfl rfl (fun φ w0 β0 F => ?_)
  refine c_run tt_ok ctJ_ok k_r03_Word [] 60 (by kernel_rfl) ?_
  refine ⟨⟨by omega, by omega, ha⟩, fun h => ?_, fun h => ?_⟩
  · exact fin_k tt_ok (rs := rs_r03_Word) rfl rfl (hK2 (by simpa using h)) [0] rfl rfl rfl rfl rfl rfl
  · have hb : liesB l.length a 1 = true := by simpa using h
    have hi := spanBad_i ha (k := 1) (n := l.length) (by have := lies_span l.length a 1 (by decide); rw [hb] at this; simpa using this.symm)
    have ei : IntKind.i64.wrap (ofAt a - (ofAt a).tmod 4) = ofAt (wAt a) := by
      rw [(tmod4 _).1 hi.1, wrap64 (by omega) (by omega)]; unfold ofAt wAt; omega
    have hw : 0 ≤ ofAt (wAt a) ∧ ofAt (wAt a) + 4 ≤ l.length := by unfold ofAt wAt at *; omega
    generalize hI : (ofAt (wAt a)).toNat = i at *
    have g : ∀ k, k < 4 → (bytesI l)[0 + (i + k) * (0 + 1)]? = some (SV.int .u8 (l.getD (i + k) 0)).cv := fun k hk => by
      rw [Nat.zero_add, Nat.zero_add, Nat.mul_one]; exact bytesI_at (by omega)
    refine ⟨ha, i + 0, ⟨by rw [ei]; omega, by omega, by simp; omega⟩, .int .u8 (l.getD (i + 0) 0), rfl, g 0 (by decide), ?_⟩
    refine ⟨i + 1, ⟨by rw [ei, wrap64 (by omega) (by omega)]; omega, by omega, by simp; omega⟩, .int .u8 (l.getD (i + 1) 0), rfl, g 1 (by decide), ?_⟩
    refine ⟨i + 2, ⟨by rw [ei, wrap64 (by omega) (by omega)]; omega, by omega, by simp; omega⟩, .int .u8 (l.getD (i + 2) 0), rfl, g 2 (by decide), ?_⟩
    refine ⟨i + 3, ⟨by rw [ei, wrap64 (by omega) (by omega)]; omega, by omega, by simp; omega⟩, .int .u8 (l.getD (i + 3) 0), rfl, g 3 (by decide), ?_⟩
    refine fin_k tt_ok (rs := rs_r03_Word) rfl rfl (hK1 hb) [0] (t2 ?_ rfl) rfl rfl rfl rfl rfl
    have hx : ∀ k, k < 4 → 0 ≤ l.getD (i + k) 0 ∧ l.getD (i + k) 0 < 256 := fun k hk => by
      have : l.getD (i + k) 0 ∈ l := by
        rw [List.getD_eq_getElem?_getD, List.getElem?_eq_getElem (by omega)]; exact List.getElem_mem _
      exact hl _ this
    have h0' := hx 0 (by decide)
    have h1' := hx 1 (by decide)
    have h2' := hx 2 (by decide)
    have h3' := hx 3 (by decide)
    unfold getW
    generalize l.getD (i + 1) 0 = b1 at *
    generalize l.getD (i + 2) 0 = b2 at *
    generalize l.getD (i + 3) 0 = b3 at *
    simp only [Nat.add_zero] at h0' ⊢
    generalize l.getD i 0 = b0 at *
    rw [wrapW]
    simp only [IntKind.wrap_u32]
    unfold Wd; omega
end Go.Proofs

namespace Go.Proofs
open Go Go.Sx
set_option maxRecDepth 10000
theorem Four_c (v : Int) : Con Try.prog f_r03_Four [.s (.int .i32 v)] [] (.ret (.t (.s (.sl 0 0 4 4))) [.own 5 1 4 (bytesI [byK v 0, byK v 1, byK v 2, byK v 3])]) := by
  intro K hK
  refine enter fn_r03_Four rfl nt_r03_Four rfl rfl (fun φ w0 β0 F => ?_)
  refine c_run tt_ok (ct := []) trivial k_r03_Four [] 60 (by kernel_rfl) ?_
  refine fin_k tt_ok (rs := rs_r03_Four) rfl rfl hK [0] rfl ?_ rfl rfl rfl rfl
  have e0 : IntKind.u8.wrap (IntKind.u32.wrap v) = byK v 0 := by rw [IntKind.wrap_u8, IntKind.wrap_u32]; unfold byK Uw; omega
  have e : ∀ (k : Nat) (q : Int), 1 ≤ q → q = 256 ^ k → IntKind.u8.wrap (IntKind.u32.wrap ((IntKind.u32.wrap v).tdiv q)) = byK v k := fun k q hq1 hq => by
    rw [IntKind.wrap_u8, IntKind.wrap_u32, IntKind.wrap_u32, Int.tdiv_eq_ediv_of_nonneg (by omega), hq]
    have h1 : 0 ≤ Uw v / q := Int.ediv_nonneg (Uw_lo v) (by omega)
    have h2 : Uw v / q ≤ Uw v := Int.ediv_le_self _ (Uw_lo v)
    have h3 := Uw_hi v
    rw [hq] at h1 h2
    show Uw v / 256 ^ k % 4294967296 % 256 = Uw v / 256 ^ k % 256
    omega
  rw [e0, e 1 256 (by decide) (by decide), e 2 65536 (by decide) (by decide), e 3 16777216 (by decide) (by decide)]; rfl
end Go.Proofs

namespace Go.Proofs
open Go Go.Sx
set_option maxRecDepth 10000
/-- From, of a slice that the caller owns. -/
theorem From_o (l : List Int) (cap : Nat) : Con Try.prog f_mem_From [.s (.sl 0 0 l.length cap)] [.own 5 1 cap (bytesI l)] (.br (mayM l.length)
    (.ret (.tup [.s (.loc 1 0), .s (.int .i64 0)]) [.own 5 1 cap (bytesI l), .blk 33 [.sl 2 0 l.length l.length], mOwn l])
    (.ret (.tup [.s (.raw (.pointer none)), .s (.int .i64 2)]) [.own 5 1 cap (bytesI l)])) := by
  intro K ⟨hK1, hK2⟩
  refine enter fn_mem_From rfl nt_mem_From rfl rfl (fun φ w0 β0 F => ?_)
  refine c_run tt_ok ctM_ok k_mem_From [] 60 (by kernel_rfl) ?_
  refine ⟨fun h => ?_, fun h => ?_⟩
  · have hb : mayM l.length = false := by simpa using h
    exact fin_k tt_ok (rs := rs_mem_From) rfl rfl (hK2 hb) [0] rfl rfl rfl rfl rfl rfl
  · have hb : mayM l.length = true := by simpa using h
    obtain ⟨k, e, h1, h2⟩ := mayM_nat hb
    refine ⟨l.length, ⟨rfl, rfl, by simp only [maxLen]; omega, by omega⟩, ?_⟩
    refine ⟨l.length, ⟨by simp, by simp, by simp, by rw [seg_bytesI]; exact bytesI_one _⟩, ?_⟩
    refine fin_k tt_ok (rs := rs_mem_From) rfl rfl (hK1 hb) [0, 2, 1] rfl ?_ rfl rfl rfl rfl
    show pickL [Ch.own 5 1 cap (bytesI l), Ch.own 5 1 l.length (setV (List.replicate l.length (Value.int .u8 0)) 0 (seg (bytesI l) 0 l.length)), Ch.blk 33 [SV.sl 1 0 l.length l.length]] [0, 2, 1] = _
    rw [copy_all l _ (by simp)]; rfl
def sameB (a b : List Int) : Bool := (a.map fun n => UInt8.ofNat n.toNat) == (b.map fun n => UInt8.ofNat n.toNat)
end Go.Proofs

namespace Go.Proofs
open Go Go.Sx
set_option maxRecDepth 10000
noncomputable abbrev eFromO : Ent := .st (conS (P := Try.prog) (f := f_mem_From) fun cargs σ0 => match cargs, σ0 with
  | [.s (.sl 0 0 n cap)], [.own 5 1 c xs] => some ⟨.ex (List Int) fun l => .ask (xs = bytesI l ∧ n = l.length ∧ c = cap)
      (.br (mayM l.length) (.ret (.tup [.s (.loc 1 0), .s (.int .i64 0)]) [.own 5 1 cap (bytesI l), .blk 33 [.sl 2 0 l.length l.length], mOwn l])
        (.ret (.tup [.s (.raw (.pointer none)), .s (.int .i64 2)]) [.own 5 1 cap (bytesI l)])), fun K h => by
      obtain ⟨l, ⟨e1, e2, e3⟩, h⟩ := h
      subst e1; subst e2; subst e3
      exact From_o l _ K h⟩
  | _, _ => none)
noncomputable abbrev eBytes : Ent := .st (conS (P := Try.prog) (f := f_mem_Mem_Bytes) fun cargs σ0 => match cargs, σ0 with
  | [.s (.loc 0 0)], [.blk 33 [.sl 1 0 n n'], .own 5 1 c xs] => some ⟨.ex (List Int) fun l => .ask (xs = bytesI l ∧ n = l.length ∧ n' = l.length ∧ c = l.length ∧ l.length ≤ 65536 ∧ 1 ≤ l.length)
      (.ret (.t (.s (.sl 2 0 l.length l.length))) [mBox l.length, mOwn l, mOwn l]), fun K h => by
      obtain ⟨l, ⟨e1, e2, e3, e4, h1, h0⟩, h⟩ := h
      subst e1; subst e2; subst e3; subst e4
      exact Bytes_c l h1 h0 K h⟩
  | _, _ => none)
noncomputable abbrev eRWord : Ent := .st (conS (P := Try.prog) (f := f_r03_Word) fun cargs σ0 => match cargs, σ0 with
  | [.s (.sl 0 0 n cap), .s (.int .i32 a)], [.view xs] => some ⟨.ex (List Int) fun l => .ask (xs = bytesI l ∧ n = l.length ∧ l.length ≤ 65536 ∧ l.length % 4 = 0 ∧ I32 a ∧ ∀ b ∈ l, 0 ≤ b ∧ b < 256)
      (.br (liesB l.length a 1) (.ret (.tup [.s (.int .i32 (getW l (ofAt (wAt a)).toNat)), .s (.int .i64 0)]) [.view (bytesI l)])
        (.ret (.tup [.s (.int .i32 0), .s (.int .i64 4)]) [.view (bytesI l)])), fun K h => by
      obtain ⟨l, ⟨e1, e2, h1, h2, h3, h4⟩, h⟩ := h
      subst e1; subst e2
      exact RWord_c l cap a h1 h2 h3 h4 K h⟩
  | _, _ => none)
def spMay : List TV → Option (Prop × FV)
  | [.s (.int .i64 n)] => some (True, .t (.s (.bool (mayM n))))
  | _ => none
theorem mayM_mod {n : Nat} (h : mayM n = true) : n % 4 = 0 := by
  unfold mayM at h
  by_cases h1 : (n : Int) ≥ 1024 <;> by_cases h2 : (n : Int) ≤ 65536 <;> simp [h1, h2] at h
  rw [(tmod4 _).1 (by omega)] at h; omega
theorem span_word {n : Nat} {a : Int} (_ : I32 a) (h : n % 4 = 0) : spanBad n (wAt a) 4 = !liesB n a 1 := by
  skip
  unfold liesB spanBad
  by_cases h1 : ofAt a < n
  · have h2 : ¬ ofAt (wAt a) ≥ n := by unfold ofAt wAt at *; omega
    have h3 : ¬ (4 > n - ofAt (wAt a)) := by unfold ofAt wAt at *; omega
    have h4 : (1 : Int) ≤ n - ofAt a := by omega
    simp only [decide_eq_false h2, decide_eq_false h3, decide_eq_true h1, decide_eq_true h4]; rfl
  · have h2 : ofAt (wAt a) ≥ n := by unfold ofAt wAt at *; omega
    simp only [decide_eq_true h2, decide_eq_false h1]; rfl
theorem u8_fit {x : Int} (h : (Lit.int .u8 x).wf = true) : 0 ≤ x ∧ x < 256 := by
  simp [Lit.wf, IntKind.min, IntKind.max, IntKind.signed, IntKind.bits] at h
  omega
end Go.Proofs

namespace Go.Proofs
open Go Go.Sx
set_option maxRecDepth 10000
theorem setL_get {l : List Int} {i j : Nat} {b : Int} (h : i < l.length) : (setL l i [b]).getD j 0 = if j = i then b else l.getD j 0 := by
  unfold setL
  simp only [List.getD_eq_getElem?_getD]
  by_cases h1 : j < i
  · rw [List.append_assoc, List.getElem?_append_left (by simp; omega), List.getElem?_take_of_lt h1, if_neg (by omega)]
  · by_cases h2 : j = i
    · subst h2
      rw [List.append_assoc, List.getElem?_append_right (by simp; omega)]
      simp [show min j l.length = j by omega]
    · rw [List.getElem?_append_right (by simp; omega), if_neg h2]
      simp only [List.length_append, List.length_take, List.length_cons, List.length_nil, List.getElem?_drop]
      congr 2
      omega
theorem stW_get {l : List Int} {i : Nat} {v : Int} (h : i + 4 ≤ l.length) : ∀ k, k ≤ 4 → ∀ j, (stW l i v k).getD j 0 = if i ≤ j ∧ j < i + k then byK v (j - i) else l.getD j 0
  | 0, _, j => by rw [if_neg (by omega)]; rfl
  | k + 1, hk, j => by
    unfold stW
    rw [setL_get (by rw [stW_length h k (by omega)]; omega), stW_get h k (by omega) j]
    by_cases h1 : j = i + k
    · subst h1; rw [if_pos rfl, if_pos (by omega)]; congr 1; omega
    · rw [if_neg h1]
      by_cases h2 : i ≤ j ∧ j < i + k
      · rw [if_pos h2, if_pos (by omega)]
      · rw [if_neg h2, if_neg (by omega)]
theorem byK_range (v : Int) (k : Nat) : 0 ≤ byK v k ∧ byK v k < 256 := by unfold byK; omega
theorem getW_setW {l : List Int} {i : Nat} {v : Int} (h : i + 4 ≤ l.length) (hv : I32 v) : getW (setW l i v) i = v := by
  unfold getW setW
  rw [stW_get h 4 (by decide), stW_get h 4 (by decide), stW_get h 4 (by decide), stW_get h 4 (by decide)]
  rw [if_pos (by omega), if_pos (by omega), if_pos (by omega), if_pos (by omega)]
  rw [show i - i = 0 by omega, show i + 1 - i = 1 by omega, show i + 2 - i = 2 by omega, show i + 3 - i = 3 by omega]
  have e : Uw v = byK v 0 + 256 * byK v 1 + 65536 * byK v 2 + 16777216 * byK v 3 := by
    have := Uw_lo v
    have := Uw_hi v
    unfold byK
    have p0 : (256 : Int) ^ 0 = 1 := rfl
    have p1 : (256 : Int) ^ 1 = 256 := rfl
    have p2 : (256 : Int) ^ 2 = 65536 := rfl
    have p3 : (256 : Int) ^ 3 = 16777216 := rfl
    rw [p0, p1, p2, p3]; omega
  rw [← e]
  rw [Wd_Uw, Wd_of hv]
theorem setW_bytes {l : List Int} {i : Nat} {v : Int} (h : i + 4 ≤ l.length) (hl : ∀ b ∈ l, 0 ≤ b ∧ b < 256) : ∀ b ∈ setW l i v, 0 ≤ b ∧ b < 256 := by
  intro b hb
  obtain ⟨j, hj, rfl⟩ := List.mem_iff_getElem.1 hb
  have hlen : (setW l i v).length = l.length := stW_length h 4 (by decide)
  have e : (setW l i v)[j] = (setW l i v).getD j 0 := by simp [hj]
  rw [e]
  show 0 ≤ (stW l i v 4).getD j 0 ∧ _
  unfold setW
  rw [stW_get h 4 (by decide)]
  split
  · exact byK_range _ _
  · have hj' : j < l.length := by omega
    have : l.getD j 0 = l[j] := by simp [hj']
    rw [this]; exact hl _ (List.getElem_mem _)
end Go.Proofs

namespace Go.Proofs
open Go Go.Sx
set_option maxRecDepth 10000
end Go.Proofs

namespace Go.Proofs
open Go Go.Sx
structure Core where
  a : Int
  b : Int
  c : Int
  iptr : Int
  wptr : Int
  pri : Int
  busy : Bool
  err : Bool
  hoe : Bool
  halted : Bool
  f0 : Int
  f1 : Int
  b0 : Int
  b1 : Int
  t0 : Int
  t1 : Int
  k0 : Int
  k1 : Int
  ticks : Int
  slice : Int
  sis : Bool
  sa : Int
  sb : Int
  sc : Int
  siptr : Int
  swptr : Int
  serr : Bool
  sslice : Int
def Core.sv : Core → List SV
  | ⟨a, b, c, iptr, wptr, pri, busy, err, hoe, halted, f0, f1, b0, b1, t0, t1, k0, k1, ticks, slice, sis, sa, sb, sc, siptr, swptr, serr, sslice⟩ => [.int .i32 a, .int .i32 b, .int .i32 c, .int .i32 iptr, .int .i32 wptr, .int .i64 pri, .bool busy, .bool err, .bool hoe, .bool halted, .int .i32 f0, .int .i32 f1, .int .i32 b0, .int .i32 b1, .int .i32 t0, .int .i32 t1, .int .i32 k0, .int .i32 k1, .int .i32 ticks, .int .i32 slice, .bool sis, .int .i32 sa, .int .i32 sb, .int .i32 sc, .int .i32 siptr, .int .i32 swptr, .bool serr, .int .i32 sslice]
/-- Cells that are a core. -/
def withCore.{u} {β : Type u} (cs : List SV) (f : (k : Core) → cs = k.sv → Option β) : Option β := match cs, f with
  | [.int .i32 a, .int .i32 b, .int .i32 c, .int .i32 iptr, .int .i32 wptr, .int .i64 pri, .bool busy, .bool err, .bool hoe, .bool halted, .int .i32 f0, .int .i32 f1, .int .i32 b0, .int .i32 b1, .int .i32 t0, .int .i32 t1, .int .i32 k0, .int .i32 k1, .int .i32 ticks, .int .i32 slice, .bool sis, .int .i32 sa, .int .i32 sb, .int .i32 sc, .int .i32 siptr, .int .i32 swptr, .bool serr, .int .i32 sslice], f => f ⟨a, b, c, iptr, wptr, pri, busy, err, hoe, halted, f0, f1, b0, b1, t0, t1, k0, k1, ticks, slice, sis, sa, sb, sc, siptr, swptr, serr, sslice⟩ rfl
  | _, _ => none
theorem withCore_some.{u} {β : Type u} {cs : List SV} {f : (k : Core) → cs = k.sv → Option β} {b : β} (h : withCore cs f = some b) : ∃ k hk, f k hk = some b := by
  unfold withCore at h
  split at h
  · exact ⟨_, _, h⟩
  · cases h
/-- What a core's registers are. -/
structure Core.ok (k : Core) : Prop where
  a : I32 k.a
  b : I32 k.b
  c : I32 k.c
  iptr : I32 k.iptr
  wptr : I32 k.wptr
  pri : -9223372036854775808 ≤ k.pri ∧ k.pri ≤ 9223372036854775807
  f0 : I32 k.f0
  f1 : I32 k.f1
  b0 : I32 k.b0
  b1 : I32 k.b1
  t0 : I32 k.t0
  t1 : I32 k.t1
  k0 : I32 k.k0
  k1 : I32 k.k1
  ticks : I32 k.ticks
  slice : I32 k.slice
  sa : I32 k.sa
  sb : I32 k.sb
  sc : I32 k.sc
  siptr : I32 k.siptr
  swptr : I32 k.swptr
  sslice : I32 k.sslice
def Core.zero : Core := ⟨0, 0, 0, 0, 0, 0, false, false, false, false, 0, 0, 0, 0, 0, 0, 0, 0, 0, 0, false, 0, 0, 0, 0, 0, false, 0⟩
def kSel (b : Bool) (k k2 : Core) : Core := ⟨bif b then k.a else k2.a, bif b then k.b else k2.b, bif b then k.c else k2.c, bif b then k.iptr else k2.iptr, bif b then k.wptr else k2.wptr, bif b then k.pri else k2.pri, bif b then k.busy else k2.busy, bif b then k.err else k2.err, bif b then k.hoe else k2.hoe, bif b then k.halted else k2.halted, bif b then k.f0 else k2.f0, bif b then k.f1 else k2.f1, bif b then k.b0 else k2.b0, bif b then k.b1 else k2.b1, bif b then k.t0 else k2.t0, bif b then k.t1 else k2.t1, bif b then k.k0 else k2.k0, bif b then k.k1 else k2.k1, bif b then k.ticks else k2.ticks, bif b then k.slice else k2.slice, bif b then k.sis else k2.sis, bif b then k.sa else k2.sa, bif b then k.sb else k2.sb, bif b then k.sc else k2.sc, bif b then k.siptr else k2.siptr, bif b then k.swptr else k2.swptr, bif b then k.serr else k2.serr, bif b then k.sslice else k2.sslice⟩
theorem kSel_t (k k2 : Core) : kSel true k k2 = k := rfl
theorem kSel_f (k k2 : Core) : kSel false k k2 = k2 := rfl
end Go.Proofs
