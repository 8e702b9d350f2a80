/- The methods of a nil memory and of one that no constructor made (printed by gen03n.py). -/
import Derived.Test.YtehloaopipkbjaaTt
import Derived.Test.YtehloaopipkbjaaSpec

namespace Go.Proofs
open Go Go.Sx
set_option maxRecDepth 10000
theorem may_c (n : Int) : Con Try.prog f_mem_may [.s (.int .i64 n)] [] (.ret (.t (.s (.bool (mayM n)))) []) := by
  intro K hK
  refine enter fn_mem_may rfl nt_mem_may rfl rfl (fun φ w0 β0 F => ?_)
  refine c_run tt_ok (ct := []) trivial k_mem_may [] 60 (by kernel_rfl) ?_
  exact fin_k tt_ok (rs := rs_mem_may) rfl rfl hK [] rfl rfl rfl rfl rfl rfl
theorem RMay_c (n : Int) : Con Try.prog f_r03_May [.s (.int .i64 n)] [] (.ret (.t (.s (.bool (mayM n)))) []) := by
  intro K hK
  refine enter fn_r03_May rfl nt_r03_May rfl rfl (fun φ w0 β0 F => ?_)
  refine c_run tt_ok (ct := []) trivial k_r03_May [] 60 (by kernel_rfl) ?_
  exact fin_k tt_ok (rs := rs_r03_May) rfl rfl hK [] rfl rfl rfl rfl rfl rfl
theorem none_c (n c c' : Nat) (xs : List Value) : Con Try.prog f_mem_Mem_none [.s (.loc 0 0)] [.blk 55 [.sl 1 0 n c], .own 5 1 c' xs] (.ret (.t (.s (.bool ((n : Int) == 0)))) [.blk 55 [.sl 1 0 n c], .own 5 1 c' xs]) := by
  intro K hK
  refine enter fn_mem_Mem_none rfl nt_mem_Mem_none rfl rfl (fun φ w0 β0 F => ?_)
  refine c_run tt_ok (ct := []) trivial k_mem_Mem_none [] 60 (by kernel_rfl) ?_
  exact fin_k tt_ok (rs := rs_mem_Mem_none) rfl rfl hK [0, 1] rfl rfl rfl rfl rfl rfl
theorem none_n : Con Try.prog f_mem_Mem_none [.s (.raw (.pointer none))] [] (.ret (.t (.s (.bool true))) []) := by
  intro K hK
  refine enter fn_mem_Mem_none rfl nt_mem_Mem_none rfl rfl (fun φ w0 β0 F => ?_)
  refine c_run tt_ok (ct := []) trivial k_mem_Mem_none [] 60 (by kernel_rfl) ?_
  refine ⟨fun h => (by cases h), fun _ => ⟨fun h => (by cases h), fun _ => ⟨fun h => (by cases h), fun _ => ⟨fun h => (by cases h), fun _ => ⟨fun h => (by cases h), fun _ => ?_⟩⟩⟩⟩⟩
  refine ⟨rfl, ?_⟩
  show WpE _ _ _ _ _
  exact fin_k tt_ok (rs := rs_mem_Mem_none) rfl rfl hK [] rfl rfl rfl rfl rfl rfl
noncomputable abbrev eNone : Ent := .st (conS (P := Try.prog) (f := f_mem_Mem_none) fun cargs σ0 => match cargs, σ0 with
  | [.s (.loc 0 0)], [.blk 55 [.sl 1 0 n c], .own 5 1 c' xs] => some ⟨.ret (.t (.s (.bool ((n : Int) == 0)))) [.blk 55 [.sl 1 0 n c], .own 5 1 c' xs], fun K h => none_c n c c' xs K h⟩
  | _, _ => none)
noncomputable abbrev ctN : CT := [(f_mem_Mem_none, eNone)]
theorem ctN_ok : CTok Try.prog ctN := ⟨con_ok cal_mem_Mem_none _, trivial⟩
theorem span_c (n : Nat) (xs : List Value) (at_ k : Int) (hn : n ≤ 65536) (ha : I32 at_) (hk : 1 ≤ k) (hk' : k ≤ 4294967296) (h0 : 1 ≤ n) : Con Try.prog f_mem_Mem_span [.s (.loc 0 0), .s (.int .i32 at_), .s (.int .i64 k)] [.blk 55 [.sl 1 0 n n], .own 5 1 n xs]
    (.br (spanBad n at_ k) (.ret (.tup [.s (.raw (.slice none 0 0)), .s (.int .i64 4)]) [.blk 55 [.sl 1 0 n n], .own 5 1 n xs])
      (.ret (.tup [.s (.sl 1 (ofAt at_).toNat k.toNat k.toNat), .s (.int .i64 0)]) [.blk 55 [.sl 1 0 n n], .own 5 1 n xs])) := by
  intro K ⟨hK1, hK2⟩
  refine enter fn_mem_Mem_span rfl nt_mem_Mem_span rfl rfl (fun φ w0 β0 F => ?_)
  refine c_run tt_ok ctN_ok k_mem_Mem_span [] 60 (by kernel_rfl) ?_
  unfold I32 at ha
  have e0 : IntKind.i64.wrap (IntKind.i64.wrap at_ - -2147483648) = ofAt at_ := by unfold ofAt; rw [wrap64 (n := at_) (by omega) (by omega), wrap64 (by omega) (by omega)]; omega
  have e1 : IntKind.i64.wrap ((n : Int) - ofAt at_) = n - ofAt at_ := by unfold ofAt; rw [wrap64 (by omega) (by omega)]
  have e2 : (bif decide (IntKind.i64.wrap (IntKind.i64.wrap at_ - -2147483648) ≥ (n : Int)) then true else decide (k > IntKind.i64.wrap ((n : Int) - IntKind.i64.wrap (IntKind.i64.wrap at_ - -2147483648)))) = spanBad n at_ k := by rw [e0, e1]; rfl
  refine ⟨fun h1 => ?_, fun h1 => ⟨fun h2 => ?_, fun h2 => ?_⟩⟩
  · exfalso; simp at h1; omega
  · exact fin_k tt_ok (rs := rs_mem_Mem_span) rfl rfl (hK1 (e2 ▸ h2)) [0, 1] rfl rfl rfl rfl rfl rfl
  · have hb : spanBad n at_ k = false := e2 ▸ h2
    have hi : (0 : Int) ≤ ofAt at_ ∧ ofAt at_ + k ≤ n := by
      unfold spanBad at hb
      by_cases h : ofAt at_ ≥ n
      · simp [h] at hb
      · simp [h] at hb; unfold ofAt at *; omega
    have e3 : IntKind.i64.wrap (IntKind.i64.wrap (IntKind.i64.wrap at_ - -2147483648) + k) = ofAt at_ + k := by rw [e0, wrap64 (by omega) (by omega)]
    refine ⟨(ofAt at_).toNat, (ofAt at_).toNat + k.toNat, (ofAt at_).toNat + k.toNat, ⟨_, _, _, rfl, rfl, rfl, ?_, ?_, ?_⟩, ⟨by omega, by omega, by omega⟩, fun off ho => ?_⟩
    · show _ = _; rw [e0]; omega
    · show _ = _; rw [e3]; omega
    · show _ = _; rw [e3]; omega
    · have ho' := ho (by omega)
      have ho2 : off = (ofAt at_).toNat := by rw [ho']; simp
      subst ho2
      refine fin_k tt_ok (rs := rs_mem_Mem_span) rfl rfl (hK2 hb) [0, 1] ?_ rfl rfl rfl rfl rfl
      rw [show (ofAt at_).toNat + k.toNat - (ofAt at_).toNat = k.toNat by omega]
      rfl
end Go.Proofs

namespace Go.Proofs
open Go Go.Sx
set_option maxRecDepth 10000
theorem andNot3_i32 {v : Int} (h : I32 v) : bits .andNot .i32 v 3 = v - v % 4 := by
  have e : bits .andNot .i32 v 3 = IntKind.i32.wrap ((BitVec.ofInt 32 v &&& ~~~ BitVec.ofInt 32 3).toNat : Int) := rfl
  have hn : ∀ i, i < 32 → (~~~ BitVec.ofInt 32 3).getLsbD i = decide (2 ≤ i) := by decide
  have e1 : BitVec.ofInt 32 v &&& ~~~ BitVec.ofInt 32 3 = (BitVec.ofInt 32 v >>> 2) <<< 2 := by
    apply BitVec.eq_of_getLsbD_eq
    intro i hi
    rw [BitVec.getLsbD_and, hn i hi, BitVec.getLsbD_shiftLeft, BitVec.getLsbD_ushiftRight]
    by_cases h2 : 2 ≤ i
    · have : ¬ i < 2 := by omega
      simp [h2, this, hi, show 2 + (i - 2) = i by omega]
    · have : i < 2 := by omega
      simp [h2, this]
  have e2 : (((BitVec.ofInt 32 v >>> 2) <<< 2).toNat : Int) = v % 4294967296 / 4 * 4 := by
    rw [BitVec.toNat_shiftLeft, BitVec.toNat_ushiftRight, BitVec.toNat_ofInt, Nat.shiftLeft_eq, Nat.shiftRight_eq_div_pow]
    have : ((2 ^ 32 : Nat) : Int) = 4294967296 := rfl
    rw [this]; omega
  rw [e, e1, e2, IntKind.wrap_i32]
  unfold I32 at h; omega
noncomputable abbrev eSpan : Ent := .st (conS (P := Try.prog) (f := f_mem_Mem_span) fun cargs σ0 => match cargs, σ0 with
  | [.s (.loc 0 0), .s (.int .i32 a), .s (.int .i64 k)], [.blk 55 [.sl 1 0 n n'], .own 5 1 c xs] => some ⟨.ask (n' = n ∧ c = n ∧ n ≤ 65536 ∧ I32 a ∧ 1 ≤ k ∧ k ≤ 4294967296 ∧ 1 ≤ n)
      (.br (spanBad n a k) (.ret (.tup [.s (.raw (.slice none 0 0)), .s (.int .i64 4)]) [.blk 55 [.sl 1 0 n n], .own 5 1 n xs])
        (.ret (.tup [.s (.sl 1 (ofAt a).toNat k.toNat k.toNat), .s (.int .i64 0)]) [.blk 55 [.sl 1 0 n n], .own 5 1 n xs])), fun K h => by
      obtain ⟨⟨e1, e2, h1, h2, h3, h4, h5⟩, h6⟩ := h
      subst e1; subst e2
      exact span_c _ xs a k h1 h2 h3 h4 h5 K h6⟩
  | _, _ => none)
noncomputable abbrev ctS : CT := [(f_mem_Mem_span, eSpan)]
theorem ctS_ok : CTok Try.prog ctS := ⟨con_ok cal_mem_Mem_span _, trivial⟩
def wAt (a : Int) : Int := a - a % 4
theorem wAt_i32 {a : Int} (h : I32 a) : I32 (wAt a) := by unfold I32 at *; unfold wAt; omega
theorem word_c (n : Nat) (xs : List Value) (at_ : Int) (hn : n ≤ 65536) (ha : I32 at_) (h0 : 1 ≤ n) : Con Try.prog f_mem_Mem_word [.s (.loc 0 0), .s (.int .i32 at_)] [.blk 55 [.sl 1 0 n n], .own 5 1 n xs]
    (.br (spanBad n (wAt at_) 4) (.ret (.tup [.s (.raw (.slice none 0 0)), .s (.int .i64 4)]) [.blk 55 [.sl 1 0 n n], .own 5 1 n xs])
      (.ret (.tup [.s (.sl 1 (ofAt (wAt at_)).toNat 4 4), .s (.int .i64 0)]) [.blk 55 [.sl 1 0 n n], .own 5 1 n xs])) := by
  intro K ⟨hK1, hK2⟩
  refine enter fn_mem_Mem_word rfl nt_mem_Mem_word rfl rfl (fun φ w0 β0 F => ?_)
  refine c_run tt_ok ctS_ok k_mem_Mem_word [] 60 (by kernel_rfl) ?_
  have e : bits .andNot .i32 at_ 3 = wAt at_ := andNot3_i32 ha
  rw [← e] at hK1 hK2
  refine ⟨⟨rfl, rfl, hn, e ▸ wAt_i32 ha, by decide, by decide, h0⟩, fun h => ?_, fun h => ?_⟩
  · exact fin_k tt_ok (rs := rs_mem_Mem_word) rfl rfl (hK1 h) [0, 1] rfl rfl rfl rfl rfl rfl
  · exact fin_k tt_ok (rs := rs_mem_Mem_word) rfl rfl (hK2 h) [0, 1] rfl rfl rfl rfl rfl rfl
theorem spanBad_i {n : Nat} {a k : Int} (ha : I32 a) (h : spanBad n a k = false) : 0 ≤ ofAt a ∧ ofAt a + k ≤ n ∧ ofAt a < n := by
  unfold spanBad at h
  unfold I32 at ha
  by_cases h' : ofAt a ≥ n
  · simp [h'] at h
  · simp [h'] at h; unfold ofAt at *; omega
theorem Byte_c (l : List Int) (at_ : Int) (hn : l.length ≤ 65536) (ha : I32 at_) (h0 : 1 ≤ l.length) : Con Try.prog f_mem_Mem_Byte [.s (.loc 0 0), .s (.int .i32 at_)] [mBox l.length, mOwn l]
    (.br (spanBad l.length at_ 1) (.ret (.tup [.s (.int .u8 0), .s (.int .i64 4)]) [mBox l.length, mOwn l])
      (.ret (.tup [.s (.int .u8 (l.getD (ofAt at_).toNat 0)), .s (.int .i64 0)]) [mBox l.length, mOwn l])) := by
  intro K ⟨hK1, hK2⟩
  refine enter fn_mem_Mem_Byte rfl nt_mem_Mem_Byte rfl rfl (fun φ w0 β0 F => ?_)
  refine c_run tt_ok ctS_ok k_mem_Mem_Byte [] 60 (by kernel_rfl) ?_
  refine ⟨⟨rfl, rfl, hn, ha, by decide, by decide, h0⟩, fun h => ⟨fun h2 => ?_, fun h2 => ?_⟩, fun h => ⟨fun h2 => ?_, fun h2 => ?_⟩⟩
  · exact fin_k tt_ok (rs := rs_mem_Mem_Byte) rfl rfl (hK1 h) [0, 1] rfl rfl rfl rfl rfl rfl
  · exact absurd h2 (by decide)
  · exact absurd h2 (by decide)
  · have hi := spanBad_i ha h
    refine ⟨0, ⟨rfl, by omega, by simp; omega⟩, .int .u8 (l.getD (ofAt at_).toNat 0), rfl, ?_, ?_⟩
    · show (bytesI l)[(ofAt at_).toNat + 0 * (0 + 1)]? = _
      rw [Nat.zero_mul, Nat.add_zero]
      exact bytesI_at (l := l) (j := (ofAt at_).toNat) (by omega)
    · exact fin_k tt_ok (rs := rs_mem_Mem_Byte) rfl rfl (hK2 h) [0, 1] rfl rfl rfl rfl rfl rfl
theorem SetByte_c (l : List Int) (at_ v : Int) (hn : l.length ≤ 65536) (ha : I32 at_) (h0 : 1 ≤ l.length) : Con Try.prog f_mem_Mem_SetByte [.s (.loc 0 0), .s (.int .i32 at_), .s (.int .u8 v)] [mBox l.length, mOwn l]
    (.br (spanBad l.length at_ 1) (.ret (.t (.s (.int .i64 4))) [mBox l.length, mOwn l])
      (.ret (.t (.s (.int .i64 0))) [mBox l.length, .own 5 1 l.length (bytesI (setL l (ofAt at_).toNat [v]))])) := by
  intro K ⟨hK1, hK2⟩
  refine enter fn_mem_Mem_SetByte rfl nt_mem_Mem_SetByte rfl rfl (fun φ w0 β0 F => ?_)
  refine c_run tt_ok ctS_ok k_mem_Mem_SetByte [] 60 (by kernel_rfl) ?_
  refine ⟨⟨rfl, rfl, hn, ha, by decide, by decide, h0⟩, fun h => ⟨fun h2 => ?_, fun h2 => ?_⟩, fun h => ⟨fun h2 => ?_, fun h2 => ?_⟩⟩
  · exact absurd h2 (by decide)
  · exact fin_k tt_ok (rs := rs_mem_Mem_SetByte) rfl rfl (hK1 h) [0, 1] rfl rfl rfl rfl rfl rfl
  · have hi := spanBad_i ha h
    refine ⟨0, ⟨rfl, by omega, by simp; omega⟩, by show (ofAt at_).toNat + 0 * (0 + 1) + 1 ≤ _; simp; omega, ?_⟩
    refine fin_k tt_ok (rs := rs_mem_Mem_SetByte) rfl rfl (hK2 h) [0, 1] rfl ?_ rfl rfl rfl rfl
    show pickL [mBox l.length, Ch.own 5 1 l.length (setV (bytesI l) ((ofAt at_).toNat + 0 * (0 + 1)) (bytesI [v]))] [0, 1] = _
    rw [setV_bytesI, Nat.zero_mul, Nat.add_zero]; rfl
  · exact absurd h2 (by decide)
theorem or_u32 {a b : Int} {k : Nat} (a0 : 0 ≤ a) (a1 : a < 2 ^ k) (b0 : 0 ≤ b) (hb : a + 2 ^ k * b < 4294967296) : bits .or .u32 a (2 ^ k * b) = a + 2 ^ k * b := by
  have e : bits .or .u32 a (2 ^ k * b) = IntKind.u32.wrap ((BitVec.ofInt 32 a ||| BitVec.ofInt 32 (2 ^ k * b)).toNat : Int) := rfl
  have hp := pow2_pos k
  have hm := Int.mul_nonneg (show (0 : Int) ≤ 2 ^ k by omega) b0
  obtain ⟨A, rfl⟩ : ∃ A : Nat, a = A := ⟨_, (Int.toNat_of_nonneg a0).symm⟩
  obtain ⟨B, rfl⟩ : ∃ B : Nat, b = B := ⟨_, (Int.toNat_of_nonneg b0).symm⟩
  have c : (2 : Int) ^ k * (B : Int) = ((2 ^ k * B : Nat) : Int) := by simp
  rw [c] at hb hm e ⊢
  have a1' : A < 2 ^ k := by have : (A : Int) < ((2 ^ k : Nat) : Int) := by simpa using a1
                             omega
  rw [e, BitVec.ofInt_natCast, BitVec.ofInt_natCast, BitVec.toNat_or, BitVec.toNat_ofNat, BitVec.toNat_ofNat, Nat.mod_eq_of_lt (by omega), Nat.mod_eq_of_lt (by omega), Nat.or_comm, ← Nat.two_pow_add_eq_or_of_lt a1', IntKind.wrap_u32]
  omega
/-- The word at place i. -/
def getW (l : List Int) (i : Nat) : Int := Wd (l.getD i 0 + 256 * l.getD (i + 1) 0 + 65536 * l.getD (i + 2) 0 + 16777216 * l.getD (i + 3) 0)
noncomputable abbrev eWord_ : Ent := .st (conS (P := Try.prog) (f := f_mem_Mem_word) fun cargs σ0 => match cargs, σ0 with
  | [.s (.loc 0 0), .s (.int .i32 a)], [.blk 55 [.sl 1 0 n n'], .own 5 1 c xs] => some ⟨.ask (n' = n ∧ c = n ∧ n ≤ 65536 ∧ I32 a ∧ 1 ≤ n)
      (.br (spanBad n (wAt a) 4) (.ret (.tup [.s (.raw (.slice none 0 0)), .s (.int .i64 4)]) [.blk 55 [.sl 1 0 n n], .own 5 1 n xs])
        (.ret (.tup [.s (.sl 1 (ofAt (wAt a)).toNat 4 4), .s (.int .i64 0)]) [.blk 55 [.sl 1 0 n n], .own 5 1 n xs])), fun K h => by
      obtain ⟨⟨e1, e2, h1, h2, h3⟩, h6⟩ := h
      subst e1; subst e2
      exact word_c _ xs a h1 h2 h3 K h6⟩
  | _, _ => none)
noncomputable abbrev ctW : CT := [(f_mem_Mem_word, eWord_)]
theorem ctW_ok : CTok Try.prog ctW := ⟨con_ok cal_mem_Mem_word _, trivial⟩
theorem Word_c (l : List Int) (at_ : Int) (hn : l.length ≤ 65536) (ha : I32 at_) (h0 : 1 ≤ l.length) (hl : ∀ b ∈ l, 0 ≤ b ∧ b < 256) : Con Try.prog f_mem_Mem_Word [.s (.loc 0 0), .s (.int .i32 at_)] [mBox l.length, mOwn l]
    (.br (spanBad l.length (wAt at_) 4) (.ret (.tup [.s (.int .i32 0), .s (.int .i64 4)]) [mBox l.length, mOwn l])
      (.ret (.tup [.s (.int .i32 (getW l (ofAt (wAt at_)).toNat)), .s (.int .i64 0)]) [mBox l.length, mOwn l])) := by
  intro K ⟨hK1, hK2⟩
  refine enter fn_mem_Mem_Word rfl nt_mem_Mem_Word rfl rfl (fun φ w0 β0 F => ?_)
  refine c_run tt_ok ctW_ok k_mem_Mem_Word [] 60 (by kernel_rfl) ?_
  refine ⟨⟨rfl, rfl, hn, ha, h0⟩, fun h => ⟨fun h2 => ?_, fun h2 => ?_⟩, fun h => ⟨fun h2 => ?_, fun h2 => ?_⟩⟩
  · exact fin_k tt_ok (rs := rs_mem_Mem_Word) rfl rfl (hK1 h) [0, 1] rfl rfl rfl rfl rfl rfl
  · exact absurd h2 (by decide)
  · exact absurd h2 (by decide)
  · have hi := spanBad_i (wAt_i32 ha) h
    generalize hI : (ofAt (wAt at_)).toNat = i at *
    have g : ∀ k, k < 4 → (bytesI l)[i + k * (0 + 1)]? = some (SV.int .u8 (l.getD (i + k) 0)).cv := fun k hk => by
      rw [Nat.zero_add, Nat.mul_one]; exact bytesI_at (by omega)
    have hx : ∀ k, k < 4 → 0 ≤ l.getD (i + k) 0 ∧ l.getD (i + k) 0 < 256 := fun k hk => by
      have : l.getD (i + k) 0 ∈ l := by
        rw [List.getD_eq_getElem?_getD, List.getElem?_eq_getElem (by omega)]; exact List.getElem_mem _
      exact hl _ this
    refine ⟨0, ⟨rfl, by omega, by simp; omega⟩, .int .u8 (l.getD (i + 0) 0), rfl, g 0 (by decide), ?_⟩
    refine ⟨1, ⟨rfl, by omega, by simp; omega⟩, .int .u8 (l.getD (i + 1) 0), rfl, g 1 (by decide), ?_⟩
    refine ⟨2, ⟨rfl, by omega, by simp; omega⟩, .int .u8 (l.getD (i + 2) 0), rfl, g 2 (by decide), ?_⟩
    refine ⟨3, ⟨rfl, by omega, by simp; omega⟩, .int .u8 (l.getD (i + 3) 0), rfl, g 3 (by decide), ?_⟩
    refine fin_k tt_ok (rs := rs_mem_Mem_Word) rfl rfl (hK2 h) [0, 1] (t2 ?_ rfl) rfl rfl rfl rfl rfl
    have h0' := hx 0 (by decide)
    have h1' := hx 1 (by decide)
    have h2' := hx 2 (by decide)
    have h3' := hx 3 (by decide)
    unfold getW
    generalize l.getD (i + 1) 0 = b1 at *
    generalize l.getD (i + 2) 0 = b2 at *
    generalize l.getD (i + 3) 0 = b3 at *
    simp only [Nat.add_zero] at h0' ⊢
    generalize l.getD i 0 = b0 at *
    have e : ∀ {b : Int} {k : Nat}, 0 ≤ b → b < 256 → k ≤ 24 → IntKind.u32.wrap (IntKind.u32.wrap b * 2 ^ min k IntKind.u32.bits) = 2 ^ k * b := fun {b k} hb hb' hk => by
      have e1 : min k IntKind.u32.bits = k := Nat.min_eq_left (Nat.le_trans hk (by decide))
      have e2 : (2 : Int) ^ k ≤ 16777216 := by
        have : (16777216 : Int) = 2 ^ k * 2 ^ (24 - k) := by rw [← pow_split hk]; decide
        have h3 := pow2_pos (24 - k)
        have h4 := pow2_pos k
        have := Int.mul_le_mul_of_nonneg_left (show (1 : Int) ≤ 2 ^ (24 - k) by omega) (show (0 : Int) ≤ 2 ^ k by omega)
        omega
      have h4 := pow2_pos k
      have h5 := Int.mul_nonneg hb (show (0 : Int) ≤ 2 ^ k by omega)
      have h6 := Int.mul_le_mul (show b ≤ 255 by omega) e2 (by omega) (by decide)
      rw [e1, IntKind.wrap_u32, IntKind.wrap_u32, Int.emod_eq_of_lt hb (by omega), Int.emod_eq_of_lt h5 (by omega), Int.mul_comm]
    have e0 : IntKind.u32.wrap b0 = b0 := by rw [IntKind.wrap_u32]; omega
    have p8 : (2 : Int) ^ 8 = 256 := by decide
    have p16 : (2 : Int) ^ 16 = 65536 := by decide
    have p24 : (2 : Int) ^ 24 = 16777216 := by decide
    rw [e0, e h1'.1 h1'.2 (by decide), e h2'.1 h2'.2 (by decide), e h3'.1 h3'.2 (by decide), or_u32 (k := 8) h0'.1 (by rw [p8]; omega) h1'.1 (by rw [p8]; omega),
      or_u32 (k := 16) (by rw [p8]; omega) (by rw [p8, p16]; omega) h2'.1 (by rw [p8, p16]; omega), or_u32 (k := 24) (by rw [p8, p16]; omega) (by rw [p8, p16, p24]; omega) h3'.1 (by rw [p8, p16, p24]; omega), wrapW, p8, p16, p24]
end Go.Proofs

namespace Go.Proofs
open Go Go.Sx
set_option maxRecDepth 10000
def byK (v : Int) (k : Nat) : Int := Uw v / 256 ^ k % 256
def stW (l : List Int) (i : Nat) (v : Int) : Nat → List Int
  | 0 => l
  | k + 1 => setL (stW l i v k) (i + k) [byK v k]
def setW (l : List Int) (i : Nat) (v : Int) : List Int := stW l i v 4
theorem stW_length {l : List Int} {i : Nat} {v : Int} (h : i + 4 ≤ l.length) : ∀ k, k ≤ 4 → (stW l i v k).length = l.length
  | 0, _ => rfl
  | k + 1, hk => by
    have ih := stW_length (v := v) h k (by omega)
    unfold stW
    rw [setL_length (by rw [ih]; simp; omega), ih]
theorem byK_prog (v : Int) {k : Nat} (hk : k ≤ 3) : IntKind.u8.wrap ((IntKind.u32.wrap v).fdiv (2 ^ min (IntKind.i64.wrap (8 * (k : Int))).toNat IntKind.u32.bits)) = byK v k := by
  have e1 : min (IntKind.i64.wrap (8 * (k : Int))).toNat IntKind.u32.bits = 8 * k := by
    rw [wrap64 (by omega) (by omega)]
    show min _ 32 = _
    omega
  have e2 : (2 : Int) ^ (8 * k) = 256 ^ k := by rw [Int.pow_mul]; rfl
  have hp : (0 : Int) ≤ 256 ^ k := by rw [← e2]; have := pow2_pos (8 * k); omega
  rw [e1, e2, Int.fdiv_eq_ediv_of_nonneg _ hp, IntKind.wrap_u8, IntKind.wrap_u32]; rfl
theorem SetWord_c (l : List Int) (at_ v : Int) (hn : l.length ≤ 65536) (ha : I32 at_) (h0 : 1 ≤ l.length) : Con Try.prog f_mem_Mem_SetWord [.s (.loc 0 0), .s (.int .i32 at_), .s (.int .i32 v)] [mBox l.length, mOwn l]
    (.br (spanBad l.length (wAt at_) 4) (.ret (.t (.s (.int .i64 4))) [mBox l.length, mOwn l])
      (.ret (.t (.s (.int .i64 0))) [mBox l.length, .own 5 1 l.length (bytesI (setW l (ofAt (wAt at_)).toNat v))])) := by
  intro K ⟨hK1, hK2⟩
  refine enter fn_mem_Mem_SetWord rfl nt_mem_Mem_SetWord rfl rfl (fun φ w0 β0 F => ?_)
  refine c_run tt_ok ctW_ok k_mem_Mem_SetWord [] 60 (by kernel_rfl) ?_
  refine ⟨⟨rfl, rfl, hn, ha, h0⟩, fun h => ?_, fun h => ?_⟩
  · show WpC _ _ _ _ _
    refine c_unroll 1 ?_
    refine c_run' tt_ok ctW_ok k_mem_Mem_SetWord [] 60 (by kernel_rfl) (by kernel_rfl) ?_
    refine ⟨fun h2 => ?_, fun h2 => ?_⟩
    · exact absurd h2 (by decide)
    · exact fin_k tt_ok (rs := rs_mem_Mem_SetWord) rfl rfl (hK1 h) [0, 1] rfl rfl rfl rfl rfl rfl
  · have hi := spanBad_i (wAt_i32 ha) h
    generalize hI : (ofAt (wAt at_)).toNat = i at *
    show WpC _ _ _ _ _
    refine c_loop (α := Nat) (fun k => k ≤ 4) (fun k => 4 - k)
      (fun k => [(2, .t (.s (.int .i32 v)), none), (7, .t (.s (.sl 1 i 4 4)), none), (8, .t (.s (.int .i64 0)), none), (17, .t (.s (.int .i64 4)), none), (18, .t (.s (.int .i64 (k : Int))), none)])
      (fun k => [mBox l.length, .own 5 1 l.length (bytesI (stW l i v k))]) 0 (Nat.zero_le _) ?_ ?_
    · exact into [0, 1] ⟨⟨_, rfl, rfl⟩, ⟨_, rfl, rfl⟩, ⟨_, rfl, rfl⟩, ⟨_, rfl, rfl⟩, ⟨_, rfl, rfl⟩, trivial⟩ ⟨_, rfl, rfl⟩ rfl rfl rfl rfl
    · intro k hk
      have hlen := stW_length (l := l) (i := i) (v := v) (by omega) k hk
      refine c_run' tt_ok ctW_ok k_mem_Mem_SetWord [] 60 (by kernel_rfl) (by kernel_rfl) ?_
      refine ⟨fun h2 => ?_, fun h2 => ?_⟩
      · have h2' := of_decide_eq_true h2
        refine ⟨?_, k, ⟨rfl, by omega, by simp; omega⟩, by show i + k * (0 + 1) + 1 ≤ _; simp; omega, ?_⟩
        · show 0 ≤ IntKind.i64.wrap (8 * (k : Int)); rw [wrap64 (by omega) (by omega)]; omega
        · refine e_again (k + 1) (show k + 1 ≤ 4 by omega) (show 4 - (k + 1) < 4 - k by omega) (into [0, 1] ⟨⟨_, rfl, rfl⟩, ⟨_, rfl, rfl⟩, ⟨_, rfl, rfl⟩, ⟨_, rfl, rfl⟩, ⟨_, rfl, fvi (wrapSucc (by omega))⟩, trivial⟩ ⟨_, rfl, ?_⟩ rfl rfl rfl rfl)
          show [mBox l.length, Ch.own 5 1 l.length (setV (bytesI (stW l i v k)) (i + k * (0 + 1)) (bytesI [IntKind.u8.wrap ((IntKind.u32.wrap v).fdiv (2 ^ min (IntKind.i64.wrap (8 * (k : Int))).toNat IntKind.u32.bits))]))] = _
          rw [byK_prog v (by omega), setV_bytesI, Nat.zero_add, Nat.mul_one]; rfl
      · have hk4 : k = 4 := by have := of_decide_eq_false h2; omega
        subst hk4
        exact fin_k tt_ok (rs := rs_mem_Mem_SetWord) rfl rfl (hK2 h) [0, 1] rfl rfl rfl rfl rfl rfl
end Go.Proofs

namespace Go.Proofs
open Go Go.Sx
set_option maxRecDepth 10000
noncomputable abbrev ctM : CT := [(f_mem_may, .st (conS (P := Try.prog) (f := f_mem_may) fun cargs σ0 => match cargs, σ0 with
  | [.s (.int .i64 n)], [] => some ⟨.ret (.t (.s (.bool (mayM n)))) [], fun K h => may_c n K h⟩
  | _, _ => none))]
theorem ctM_ok : CTok Try.prog ctM := ⟨con_ok cal_mem_may _, trivial⟩
theorem mayM_nat {n : Int} (h : mayM n = true) : ∃ k : Nat, n = k ∧ 1024 ≤ k ∧ k ≤ 65536 := by
  unfold mayM at h
  by_cases h1 : n ≥ 1024 <;> by_cases h2 : n ≤ 65536 <;> simp [h1, h2] at h
  exact ⟨n.toNat, by omega, by omega, by omega⟩
theorem New_c (n : Int) : Con Try.prog f_mem_New [.s (.int .i64 n)] [] (.br (mayM n)
    (.ret (.tup [.s (.loc 0 0), .s (.int .i64 0)]) [mBox n.toNat, .own 5 1 n.toNat (bytesI (List.replicate n.toNat 0))])
    (.ret (.tup [.s (.raw (.pointer none)), .s (.int .i64 2)]) [])) := by
  intro K ⟨hK1, hK2⟩
  refine enter fn_mem_New rfl nt_mem_New rfl rfl (fun φ w0 β0 F => ?_)
  refine c_run tt_ok ctM_ok k_mem_New [] 60 (by kernel_rfl) ?_
  refine ⟨fun h => ?_, fun h => ?_⟩
  · have hb : mayM n = false := by simpa using h
    exact fin_k tt_ok (rs := rs_mem_New) rfl rfl (hK2 hb) [] rfl rfl rfl rfl rfl rfl
  · have hb : mayM n = true := by simpa using h
    obtain ⟨k, rfl, h1, h2⟩ := mayM_nat hb
    refine ⟨k, ⟨rfl, rfl, by simp only [maxLen]; omega, by omega⟩, ?_⟩
    refine fin_k tt_ok (rs := rs_mem_New) rfl rfl (hK1 hb) [1, 0] rfl ?_ rfl rfl rfl rfl
    have e : bytesI (List.replicate k 0) = List.replicate k (Value.int .u8 0) := by simp [bytesI]
    rw [Int.toNat_natCast, e]; rfl
theorem Size_c (n c c' : Nat) (xs : List Value) : Con Try.prog f_mem_Mem_Size [.s (.loc 0 0)] [.blk 55 [.sl 1 0 n c], .own 5 1 c' xs] (.ret (.t (.s (.int .i64 (n : Int)))) [.blk 55 [.sl 1 0 n c], .own 5 1 c' xs]) := by
  intro K hK
  refine enter fn_mem_Mem_Size rfl nt_mem_Mem_Size rfl rfl (fun φ w0 β0 F => ?_)
  refine c_run tt_ok ctN_ok k_mem_Mem_Size [] 60 (by kernel_rfl) ?_
  refine ⟨fun h => ?_, fun h => ?_⟩
  · refine fin_k tt_ok (rs := rs_mem_Mem_Size) rfl rfl hK [0, 1] (t1 ?_) rfl rfl rfl rfl rfl
    simpa using h.symm
  · exact fin_k tt_ok (rs := rs_mem_Mem_Size) rfl rfl hK [0, 1] rfl rfl rfl rfl rfl rfl
theorem copy_all (l : List Int) (zs : List Value) (h : zs.length = l.length) : setV zs 0 (seg (bytesI l) 0 l.length) = bytesI l := by
  rw [seg_bytesI, List.drop_zero, List.take_of_length_le (by omega)]
  unfold setV
  rw [List.take_zero, List.nil_append, List.drop_eq_nil_of_le (by simp; omega), List.append_nil]
theorem copy_full (q : List Int) (zs : List Value) (h : zs.length = q.length) : setV zs 0 (bytesI q) = bytesI q := by
  unfold setV
  rw [List.take_zero, List.nil_append, List.drop_eq_nil_of_le (by simp; omega), List.append_nil]
theorem From_c (l : List Int) (cap : Nat) : Con Try.prog f_mem_From [.s (.sl 0 0 l.length cap)] [.view (bytesI l)] (.br (mayM l.length)
    (.ret (.tup [.s (.loc 1 0), .s (.int .i64 0)]) [.view (bytesI l), .blk 55 [.sl 2 0 l.length l.length], mOwn l])
    (.ret (.tup [.s (.raw (.pointer none)), .s (.int .i64 2)]) [.view (bytesI l)])) := by
  intro K ⟨hK1, hK2⟩
  refine enter fn_mem_From rfl nt_mem_From rfl rfl (fun φ w0 β0 F => ?_)
  refine c_run tt_ok ctM_ok k_mem_From [] 60 (by kernel_rfl) ?_
  refine ⟨fun h => ?_, fun h => ?_⟩
  · have hb : mayM l.length = false := by simpa using h
    exact fin_k tt_ok (rs := rs_mem_From) rfl rfl (hK2 hb) [0] rfl rfl rfl rfl rfl rfl
  · have hb : mayM l.length = true := by simpa using h
    obtain ⟨k, e, h1, h2⟩ := mayM_nat hb
    refine ⟨l.length, ⟨rfl, rfl, by simp only [maxLen]; omega, by omega⟩, ?_⟩
    refine ⟨l.length, ⟨by simp, by simp, by simp, by rw [seg_bytesI]; exact bytesI_one _⟩, ?_⟩
    refine fin_k tt_ok (rs := rs_mem_From) rfl rfl (hK1 hb) [0, 2, 1] rfl ?_ rfl rfl rfl rfl
    show pickL [Ch.view (bytesI l), Ch.own 5 1 l.length (setV (List.replicate l.length (Value.int .u8 0)) 0 (seg (bytesI l) 0 l.length)), Ch.blk 55 [SV.sl 1 0 l.length l.length]] [0, 2, 1] = _
    rw [copy_all l _ (by simp)]; rfl
theorem Bytes_c (l : List Int) (hn : l.length ≤ 65536) (h0 : 1 ≤ l.length) : Con Try.prog f_mem_Mem_Bytes [.s (.loc 0 0)] [mBox l.length, mOwn l]
    (.ret (.t (.s (.sl 2 0 l.length l.length))) [mBox l.length, mOwn l, mOwn l]) := by
  intro K hK
  refine enter fn_mem_Mem_Bytes rfl nt_mem_Mem_Bytes rfl rfl (fun φ w0 β0 F => ?_)
  refine c_run tt_ok ctN_ok k_mem_Mem_Bytes [] 60 (by kernel_rfl) ?_
  refine ⟨fun h => ?_, fun h => ?_⟩
  · simp at h; subst h; simp at h0
  · refine ⟨l.length, ⟨rfl, rfl, by simp only [maxLen]; omega, by omega⟩, ?_⟩
    refine ⟨l.length, ⟨by simp, by simp, by simp, ?_⟩, ?_⟩
    · rw [seg_bytesI]; exact bytesI_one _
    · refine fin_k tt_ok (rs := rs_mem_Mem_Bytes) rfl rfl hK [0, 1, 2] rfl ?_ rfl rfl rfl rfl
      show pickL [mBox l.length, mOwn l, Ch.own 5 1 l.length (setV (List.replicate l.length (Value.int .u8 0)) 0 (seg (bytesI l) 0 l.length))] [0, 1, 2] = _
      rw [copy_all l _ (by simp)]; rfl
noncomputable abbrev ctR : CT := [(f_mem_Mem_none, eNone), (f_mem_Mem_span, eSpan)]
theorem ctR_ok : CTok Try.prog ctR := ⟨con_ok cal_mem_Mem_none _, con_ok cal_mem_Mem_span _, trivial⟩
theorem Read_c (l : List Int) (at_ k : Int) (hn : l.length ≤ 65536) (ha : I32 at_) (h0 : 1 ≤ l.length) (hk : k ≤ 4294967296) : Con Try.prog f_mem_Mem_Read [.s (.loc 0 0), .s (.int .i32 at_), .s (.int .i64 k)] [mBox l.length, mOwn l]
    (.br (decide (k < 0)) (.ret (.tup [.s (.raw (.slice none 0 0)), .s (.int .i64 2)]) [mBox l.length, mOwn l])
      (.br (k == 0) (.ret (.tup [.s (.raw (.slice none 0 0)), .s (.int .i64 0)]) [mBox l.length, mOwn l])
        (.br (spanBad l.length at_ k) (.ret (.tup [.s (.raw (.slice none 0 0)), .s (.int .i64 4)]) [mBox l.length, mOwn l])
          (.ret (.tup [.s (.sl 2 0 k.toNat k.toNat), .s (.int .i64 0)]) [mBox l.length, mOwn l, mOwn ((l.drop (ofAt at_).toNat).take k.toNat)])))) := by
  intro K ⟨hK1, hK⟩
  refine enter fn_mem_Mem_Read rfl nt_mem_Mem_Read rfl rfl (fun φ w0 β0 F => ?_)
  refine c_run tt_ok ctR_ok k_mem_Mem_Read [] 60 (by kernel_rfl) ?_
  refine ⟨fun h => ?_, fun _ => ⟨fun h => ?_, fun hk1 => ⟨fun h => ?_, fun hk2 => ⟨⟨rfl, rfl, hn, ha, ?_, hk, h0⟩, fun h => ⟨fun h2 => ?_, fun h2 => ?_⟩, fun h => ⟨fun h2 => ?_, fun h2 => ?_⟩⟩⟩⟩⟩
  · simp at h; subst h; simp at h0
  · exact fin_k tt_ok (rs := rs_mem_Mem_Read) rfl rfl (hK1 h) [0, 1] rfl rfl rfl rfl rfl rfl
  · exact fin_k tt_ok (rs := rs_mem_Mem_Read) rfl rfl ((hK hk1).1 h) [0, 1] rfl rfl rfl rfl rfl rfl
  · simp at hk1 hk2; omega
  · exact fin_k tt_ok (rs := rs_mem_Mem_Read) rfl rfl (((hK hk1).2 hk2).1 h) [0, 1] rfl rfl rfl rfl rfl rfl
  · exact absurd h2 (by decide)
  · exact absurd h2 (by decide)
  · simp at hk1 hk2
    have hi := spanBad_i ha h
    refine ⟨k.toNat, ⟨by omega, by omega, by simp only [maxLen]; omega, by omega⟩, ?_⟩
    refine ⟨k.toNat, ⟨by simp, by simp, by simp; omega, by rw [seg_bytesI]; exact bytesI_one _⟩, ?_⟩
    refine fin_k tt_ok (rs := rs_mem_Mem_Read) rfl rfl (((hK (by simpa using hk1)).2 (by simpa using hk2)).2 h) [0, 1, 2] rfl ?_ rfl rfl rfl rfl
    have hq : ((l.drop (ofAt at_).toNat).take k.toNat).length = k.toNat := by simp; omega
    show pickL [mBox l.length, mOwn l, Ch.own 5 1 k.toNat (setV (List.replicate k.toNat (Value.int .u8 0)) 0 (seg (bytesI l) (ofAt at_).toNat k.toNat))] [0, 1, 2] = some (List.map (Ch.rn fun k => [0, 1, 2].getD k 0)
        [mBox l.length, mOwn l, Ch.own 5 1 ((l.drop (ofAt at_).toNat).take k.toNat).length (bytesI ((l.drop (ofAt at_).toNat).take k.toNat))])
    rw [seg_bytesI, copy_full _ _ (by rw [hq]; simp), hq]; rfl
end Go.Proofs

namespace Go.Proofs
open Go Go.Sx
set_option maxRecDepth 10000
theorem Write_c (l b : List Int) (cb : Nat) (at_ : Int) (hn : l.length ≤ 65536) (ha : I32 at_) (h0 : 1 ≤ l.length) (hb : b.length ≤ 4294967296) : Con Try.prog f_mem_Mem_Write [.s (.loc 0 0), .s (.int .i32 at_), .s (.sl 2 0 b.length cb)] [mBox l.length, mOwn l, .view (bytesI b)]
    (.br ((b.length : Int) == 0) (.ret (.t (.s (.int .i64 0))) [mBox l.length, mOwn l, .view (bytesI b)])
      (.br (spanBad l.length at_ b.length) (.ret (.t (.s (.int .i64 4))) [mBox l.length, mOwn l, .view (bytesI b)])
        (.ret (.t (.s (.int .i64 0))) [mBox l.length, .own 5 1 l.length (bytesI (setL l (ofAt at_).toNat b)), .view (bytesI b)]))) := by
  intro K ⟨hK1, hK⟩
  refine enter fn_mem_Mem_Write rfl nt_mem_Mem_Write rfl rfl (fun φ w0 β0 F => ?_)
  refine c_run tt_ok ctR_ok k_mem_Mem_Write [] 60 (by kernel_rfl) ?_
  refine ⟨fun h => ?_, fun _ => ⟨fun h => ?_, fun hk2 => ⟨⟨rfl, rfl, hn, ha, ?_, by omega, h0⟩, fun h => ?_, fun h => ?_⟩⟩⟩
  · simp at h; subst h; simp at h0
  · exact fin_k tt_ok (rs := rs_mem_Mem_Write) rfl rfl (hK1 h) [0, 1, 2] rfl rfl rfl rfl rfl rfl
  · simp at hk2; have : b.length ≠ 0 := fun e => hk2 (List.eq_nil_of_length_eq_zero e); omega
  · exact fin_k tt_ok (rs := rs_mem_Mem_Write) rfl rfl ((hK hk2).1 h) [0, 1, 2] rfl rfl rfl rfl rfl rfl
  · have hi := spanBad_i ha h
    refine ⟨b.length, ⟨by simp, by simp; omega, by simp, by rw [seg_bytesI]; exact bytesI_one _⟩, ?_⟩
    refine fin_k tt_ok (rs := rs_mem_Mem_Write) rfl rfl ((hK hk2).2 h) [0, 1, 2] rfl ?_ rfl rfl rfl rfl
    show pickL [mBox l.length, Ch.own 5 1 l.length (setV (bytesI l) (ofAt at_).toNat (seg (bytesI b) 0 b.length)), Ch.view (bytesI b)] [0, 1, 2] = _
    rw [seg_bytesI, List.drop_zero, List.take_of_length_le (Nat.le_refl _), setV_bytesI]; rfl
theorem Move_c (l : List Int) (to fr k : Int) (hn : l.length ≤ 65536) (ht : I32 to) (hf : I32 fr) (hk : I32 k) (h0 : 1 ≤ l.length) : Con Try.prog f_mem_Mem_Move [.s (.loc 0 0), .s (.int .i32 to), .s (.int .i32 fr), .s (.int .i32 k)] [mBox l.length, mOwn l]
    (.br (k == 0) (.ret (.t (.s (.int .i64 0))) [mBox l.length, mOwn l])
      (.br (spanBad l.length fr (Uw k)) (.ret (.t (.s (.int .i64 4))) [mBox l.length, mOwn l])
        (.br (spanBad l.length to (Uw k)) (.ret (.t (.s (.int .i64 4))) [mBox l.length, mOwn l])
          (.ret (.t (.s (.int .i64 0))) [mBox l.length, .own 5 1 l.length (bytesI (setL l (ofAt to).toNat ((l.drop (ofAt fr).toNat).take (Uw k).toNat)))])))) := by
  intro K ⟨hK1, hK⟩
  refine enter fn_mem_Mem_Move rfl nt_mem_Mem_Move rfl rfl (fun φ w0 β0 F => ?_)
  refine c_run tt_ok ctR_ok k_mem_Mem_Move [] 60 (by kernel_rfl) ?_
  have eU : IntKind.i64.wrap (IntKind.u32.wrap k) = Uw k := by rw [IntKind.wrap_i64, IntKind.wrap_u32]; unfold Uw; omega
  have hU0 := Uw_lo k
  have hU1 := Uw_hi k
  refine ⟨fun h => ?_, fun _ => ⟨fun h => ?_, fun hk2 => ?_⟩⟩
  · simp at h; subst h; simp at h0
  · exact fin_k tt_ok (rs := rs_mem_Mem_Move) rfl rfl (hK1 h) [0, 1] rfl rfl rfl rfl rfl rfl
  · have hU : 1 ≤ Uw k := by simp at hk2; unfold I32 at hk; unfold Uw; omega
    have hK := hK hk2
    rw [← eU] at hK
    refine ⟨⟨rfl, rfl, hn, hf, by rw [eU]; exact hU, by rw [eU]; omega, h0⟩, fun h => ⟨fun h2 => ?_, fun h2 => ?_⟩, fun h => ⟨fun h2 => ?_, fun h2 => ⟨⟨rfl, rfl, hn, ht, ?_, ?_, h0⟩, fun h3 => ?_, fun h3 => ?_⟩⟩⟩
    · exact fin_k tt_ok (rs := rs_mem_Mem_Move) rfl rfl (hK.1 h) [0, 1] rfl rfl rfl rfl rfl rfl
    · exact absurd h2 (by decide)
    · exact absurd h2 (by decide)
    · rw [eU]; omega
    · rw [eU]; omega
    · have h3' : spanBad l.length to (IntKind.i64.wrap (IntKind.u32.wrap k)) = true := by rw [← h3]; congr 1; rw [eU]; omega
      exact fin_k tt_ok (rs := rs_mem_Mem_Move) rfl rfl ((hK.2 h).1 h3') [0, 1] rfl rfl rfl rfl rfl rfl
    · have h3' : spanBad l.length to (IntKind.i64.wrap (IntKind.u32.wrap k)) = false := by rw [← h3]; congr 1; rw [eU]; omega
      have hi := spanBad_i hf h
      have hi2 := spanBad_i ht h3'
      have hK' := (hK.2 h).2 h3'
      rw [eU] at hi hi2
      refine ⟨(IntKind.i64.wrap (IntKind.u32.wrap k)).toNat, ⟨?_, ?_, ?_, by rw [seg_bytesI]; exact bytesI_one _⟩, ?_⟩
      · exact (Nat.min_self _).symm
      · rw [eU]; simp; omega
      · rw [eU]; simp; omega
      · refine fin_k tt_ok (rs := rs_mem_Mem_Move) rfl rfl hK' [0, 1] rfl ?_ rfl rfl rfl rfl
        show pickL [mBox l.length, Ch.own 5 1 l.length (setV (bytesI l) (ofAt to).toNat (seg (bytesI l) (ofAt fr).toNat (IntKind.i64.wrap (IntKind.u32.wrap k)).toNat))] [0, 1] = _
        rw [seg_bytesI, setV_bytesI]; rfl
end Go.Proofs

namespace Go.Proofs
open Go Go.Sx
set_option maxRecDepth 10000
noncomputable abbrev eByte : Ent := .st (conS (P := Try.prog) (f := f_mem_Mem_Byte) fun cargs σ0 => match cargs, σ0 with
  | [.s (.loc 0 0), .s (.int .i32 a)], [.blk 55 [.sl 1 0 n n'], .own 5 1 c xs] => some ⟨.ex (List Int) fun l => .ask (xs = bytesI l ∧ n = l.length ∧ n' = l.length ∧ c = l.length ∧ l.length ≤ 65536 ∧ 1 ≤ l.length ∧ I32 a)
      (.br (spanBad l.length a 1) (.ret (.tup [.s (.int .u8 0), .s (.int .i64 4)]) [mBox l.length, mOwn l]) (.ret (.tup [.s (.int .u8 (l.getD (ofAt a).toNat 0)), .s (.int .i64 0)]) [mBox l.length, mOwn l])), fun K h => by
      obtain ⟨l, ⟨e1, e2, e3, e4, h1, h0, h2⟩, h⟩ := h
      subst e1; subst e2; subst e3; subst e4
      exact Byte_c l a h1 h2 h0 K h⟩
  | _, _ => none)
noncomputable abbrev eSetByte : Ent := .st (conS (P := Try.prog) (f := f_mem_Mem_SetByte) fun cargs σ0 => match cargs, σ0 with
  | [.s (.loc 0 0), .s (.int .i32 a), .s (.int .u8 v)], [.blk 55 [.sl 1 0 n n'], .own 5 1 c xs] => some ⟨.ex (List Int) fun l => .ask (xs = bytesI l ∧ n = l.length ∧ n' = l.length ∧ c = l.length ∧ l.length ≤ 65536 ∧ 1 ≤ l.length ∧ I32 a)
      (.br (spanBad l.length a 1) (.ret (.t (.s (.int .i64 4))) [mBox l.length, mOwn l]) (.ret (.t (.s (.int .i64 0))) [mBox l.length, .own 5 1 l.length (bytesI (setL l (ofAt a).toNat [v]))])), fun K h => by
      obtain ⟨l, ⟨e1, e2, e3, e4, h1, h0, h2⟩, h⟩ := h
      subst e1; subst e2; subst e3; subst e4
      exact SetByte_c l a v h1 h2 h0 K h⟩
  | _, _ => none)
noncomputable abbrev eWord : Ent := .st (conS (P := Try.prog) (f := f_mem_Mem_Word) fun cargs σ0 => match cargs, σ0 with
  | [.s (.loc 0 0), .s (.int .i32 a)], [.blk 55 [.sl 1 0 n n'], .own 5 1 c xs] => some ⟨.ex (List Int) fun l => .ask (xs = bytesI l ∧ n = l.length ∧ n' = l.length ∧ c = l.length ∧ l.length ≤ 65536 ∧ 1 ≤ l.length ∧ I32 a ∧ ∀ b ∈ l, 0 ≤ b ∧ b < 256)
      (.br (spanBad l.length (wAt a) 4) (.ret (.tup [.s (.int .i32 0), .s (.int .i64 4)]) [mBox l.length, mOwn l]) (.ret (.tup [.s (.int .i32 (getW l (ofAt (wAt a)).toNat)), .s (.int .i64 0)]) [mBox l.length, mOwn l])), fun K h => by
      obtain ⟨l, ⟨e1, e2, e3, e4, h1, h0, h2, h3⟩, h⟩ := h
      subst e1; subst e2; subst e3; subst e4
      exact Word_c l a h1 h2 h0 h3 K h⟩
  | _, _ => none)
noncomputable abbrev eSetWord : Ent := .st (conS (P := Try.prog) (f := f_mem_Mem_SetWord) fun cargs σ0 => match cargs, σ0 with
  | [.s (.loc 0 0), .s (.int .i32 a), .s (.int .i32 v)], [.blk 55 [.sl 1 0 n n'], .own 5 1 c xs] => some ⟨.ex (List Int) fun l => .ask (xs = bytesI l ∧ n = l.length ∧ n' = l.length ∧ c = l.length ∧ l.length ≤ 65536 ∧ 1 ≤ l.length ∧ I32 a)
      (.br (spanBad l.length (wAt a) 4) (.ret (.t (.s (.int .i64 4))) [mBox l.length, mOwn l]) (.ret (.t (.s (.int .i64 0))) [mBox l.length, .own 5 1 l.length (bytesI (setW l (ofAt (wAt a)).toNat v))])), fun K h => by
      obtain ⟨l, ⟨e1, e2, e3, e4, h1, h0, h2⟩, h⟩ := h
      subst e1; subst e2; subst e3; subst e4
      exact SetWord_c l a v h1 h2 h0 K h⟩
  | _, _ => none)
noncomputable abbrev eMove : Ent := .st (conS (P := Try.prog) (f := f_mem_Mem_Move) fun cargs σ0 => match cargs, σ0 with
  | [.s (.loc 0 0), .s (.int .i32 to), .s (.int .i32 fr), .s (.int .i32 k)], [.blk 55 [.sl 1 0 n n'], .own 5 1 c xs] => some ⟨.ex (List Int) fun l => .ask (xs = bytesI l ∧ n = l.length ∧ n' = l.length ∧ c = l.length ∧ l.length ≤ 65536 ∧ 1 ≤ l.length ∧ I32 to ∧ I32 fr ∧ I32 k)
      (.br (k == 0) (.ret (.t (.s (.int .i64 0))) [mBox l.length, mOwn l]) (.br (spanBad l.length fr (Uw k)) (.ret (.t (.s (.int .i64 4))) [mBox l.length, mOwn l])
        (.br (spanBad l.length to (Uw k)) (.ret (.t (.s (.int .i64 4))) [mBox l.length, mOwn l]) (.ret (.t (.s (.int .i64 0))) [mBox l.length, .own 5 1 l.length (bytesI (setL l (ofAt to).toNat ((l.drop (ofAt fr).toNat).take (Uw k).toNat)))])))), fun K h => by
      obtain ⟨l, ⟨e1, e2, e3, e4, h1, h0, h2, h3, h4⟩, h⟩ := h
      subst e1; subst e2; subst e3; subst e4
      exact Move_c l to fr k h1 h2 h3 h4 h0 K h⟩
  | _, _ => none)
noncomputable abbrev eRead : Ent := .st (conS (P := Try.prog) (f := f_mem_Mem_Read) fun cargs σ0 => match cargs, σ0 with
  | [.s (.loc 0 0), .s (.int .i32 a), .s (.int .i64 k)], [.blk 55 [.sl 1 0 n n'], .own 5 1 c xs] => some ⟨.ex (List Int) fun l => .ask (xs = bytesI l ∧ n = l.length ∧ n' = l.length ∧ c = l.length ∧ l.length ≤ 65536 ∧ 1 ≤ l.length ∧ I32 a ∧ k ≤ 4294967296)
      (.br (decide (k < 0)) (.ret (.tup [.s (.raw (.slice none 0 0)), .s (.int .i64 2)]) [mBox l.length, mOwn l]) (.br (k == 0) (.ret (.tup [.s (.raw (.slice none 0 0)), .s (.int .i64 0)]) [mBox l.length, mOwn l])
        (.br (spanBad l.length a k) (.ret (.tup [.s (.raw (.slice none 0 0)), .s (.int .i64 4)]) [mBox l.length, mOwn l])
          (.ret (.tup [.s (.sl 2 0 k.toNat k.toNat), .s (.int .i64 0)]) [mBox l.length, mOwn l, mOwn ((l.drop (ofAt a).toNat).take k.toNat)])))), fun K h => by
      obtain ⟨l, ⟨e1, e2, e3, e4, h1, h0, h2, h3⟩, h⟩ := h
      subst e1; subst e2; subst e3; subst e4
      exact Read_c l a k h1 h2 h0 h3 K h⟩
  | _, _ => none)
noncomputable abbrev eSize : Ent := .st (conS (P := Try.prog) (f := f_mem_Mem_Size) fun cargs σ0 => match cargs, σ0 with
  | [.s (.loc 0 0)], [.blk 55 [.sl 1 0 n c], .own 5 1 c' xs] => some ⟨.ret (.t (.s (.int .i64 (n : Int)))) [.blk 55 [.sl 1 0 n c], .own 5 1 c' xs], fun K h => Size_c n c c' xs K h⟩
  | _, _ => none)
noncomputable abbrev eNew : Ent := .st (conS (P := Try.prog) (f := f_mem_New) fun cargs σ0 => match cargs, σ0 with
  | [.s (.int .i64 n)], [] => some ⟨.br (mayM n) (.ret (.tup [.s (.loc 0 0), .s (.int .i64 0)]) [mBox n.toNat, .own 5 1 n.toNat (bytesI (List.replicate n.toNat 0))]) (.ret (.tup [.s (.raw (.pointer none)), .s (.int .i64 2)]) []), fun K h => New_c n K h⟩
  | _, _ => none)
noncomputable abbrev ctA : CT := [(f_mem_Wcnt, in_mem_Wcnt []), (f_mem_Wsub, in_mem_Wsub []), (f_mem_Bsub, in_mem_Bsub []), (f_mem_Bcnt, in_mem_Bcnt []), (f_r03_Wcnt, in_r03_Wcnt []), (f_r03_Wsub, in_r03_Wsub []), (f_r03_Bsub, in_r03_Bsub [])]
theorem ctA_ok : CTok Try.prog ctA := ⟨in_mem_Wcnt_ok trivial, in_mem_Wsub_ok trivial, in_mem_Bsub_ok trivial, in_mem_Bcnt_ok trivial, in_r03_Wcnt_ok trivial, in_r03_Wsub_ok trivial, in_r03_Bsub_ok trivial, trivial⟩
noncomputable abbrev ctH : CT := (f_mem_New, eNew) :: (f_mem_Mem_Size, eSize) :: (f_mem_Mem_Byte, eByte) :: (f_mem_Mem_SetByte, eSetByte) :: (f_mem_Mem_Word, eWord) :: (f_mem_Mem_SetWord, eSetWord) :: (f_mem_Mem_Move, eMove) :: (f_mem_Mem_Read, eRead) :: ctA
theorem ctH_ok : CTok Try.prog ctH := ⟨con_ok cal_mem_New _, con_ok cal_mem_Mem_Size _, con_ok cal_mem_Mem_Byte _, con_ok cal_mem_Mem_SetByte _, con_ok cal_mem_Mem_Word _, con_ok cal_mem_Mem_SetWord _, con_ok cal_mem_Mem_Move _, con_ok cal_mem_Mem_Read _, ctA_ok⟩
end Go.Proofs

namespace Go.Proofs
open Go Go.Sx
set_option maxRecDepth 10000
instance (x : Int) : Decidable (I32 x) := by unfold I32; infer_instance
def m0 : List Int := List.replicate (Int.toNat 1024) 0
def m1 : List Int := setW m0 (ofAt (wAt (-2147483642))).toNat 100
def m2 : List Int := setL m1 (ofAt (-2147483643)).toNat [2]
def m3 : List Int := setL m2 (ofAt (-2147483647)).toNat ((m2.drop (ofAt (-2147483644)).toNat).take (Uw 2).toNat)
theorem head_c : Con Try.prog f_l03_head [] [] (.ret (.t (.s (.bool true))) []) := by
  intro K hK
  refine enter fn_l03_head rfl nt_l03_head rfl rfl (fun φ w0 β0 F => ?_)
  refine c_run tt_ok ctH_ok k_l03_head [] 60 (by kernel_rfl) ?_
  refine ⟨fun _ => ⟨fun h => absurd h (by decide), fun _ => ?_⟩, fun h => absurd h (by decide)⟩
  refine ⟨m0, ⟨rfl, by decide +kernel, by decide +kernel, by decide +kernel, by decide +kernel, by decide +kernel, by decide +kernel⟩, fun h => absurd h (by decide +kernel), fun _ => ?_⟩
  refine ⟨m1, ⟨rfl, by decide +kernel, by decide +kernel, by decide +kernel, by decide +kernel, by decide +kernel, by decide +kernel⟩, fun h => absurd h (by decide +kernel), fun _ => ?_⟩
  refine ⟨m1, ⟨rfl, rfl, rfl, rfl, by decide +kernel, by decide +kernel, by decide +kernel⟩, fun h => absurd h (by decide +kernel), fun _ => ?_⟩
  refine ⟨m2, ⟨rfl, by decide +kernel, by decide +kernel, by decide +kernel, by decide +kernel, by decide +kernel, by decide +kernel, by decide +kernel⟩, fun h => absurd h (by decide +kernel), fun _ => ?_⟩
  refine ⟨m2, ⟨rfl, rfl, rfl, rfl, by decide +kernel, by decide +kernel, by decide +kernel, by decide +kernel, by decide +kernel⟩, fun h => absurd h (by decide +kernel), fun _ => ⟨fun h => absurd h (by decide +kernel), fun _ => ⟨fun h => absurd h (by decide +kernel), fun _ => ?_⟩⟩⟩
  refine ⟨m3, ⟨rfl, by decide +kernel, by decide +kernel, by decide +kernel, by decide +kernel, by decide +kernel, by decide +kernel, by decide +kernel⟩, fun h => absurd h (by decide +kernel), fun _ => ⟨fun h => absurd h (by decide +kernel), fun _ => ⟨fun h => absurd h (by decide +kernel), fun _ => ?_⟩⟩⟩
  refine ⟨m3, ⟨rfl, rfl, rfl, rfl, by decide +kernel, by decide +kernel, by decide +kernel⟩, fun _ => ?_, fun h => absurd h (by decide +kernel)⟩
  refine ⟨(m3.drop (ofAt (-2147483648)).toNat).take (Int.toNat 4), fun _ => ⟨?_, ?_⟩, ?_⟩
  · rw [seg_bytesI, List.drop_zero, List.take_of_length_le (by decide +kernel)]; rfl
  · decide +kernel
  · refine ⟨fun hb => ⟨fun hb2 => ?_, fun hb2 => ?_⟩, fun hb => ?_⟩
    · refine fin_k tt_ok (rs := rs_l03_head) rfl rfl hK [] (t1b ?_) rfl rfl rfl rfl rfl
      clear hb hb2
      decide +kernel
    · exact absurd hb2 (by decide +kernel)
    · exact absurd hb (by decide +kernel)
end Go.Proofs

namespace Go.Proofs
open Go Go.Sx
set_option maxRecDepth 10000
def sp2 (g : Int → Int → Int) : List TV → Option (Prop × FV)
  | [.s (.int .i32 a), .s (.int .i32 b)] => some (True, .t (.s (.int .i32 (g a b))))
  | _ => none
def sp1 (g : Int → Int) : List TV → Option (Prop × FV)
  | [.s (.int .i32 a)] => some (True, .t (.s (.int .i32 (g a))))
  | _ => none
def spHead : List TV → Option (Prop × FV)
  | [] => some (True, .t (.s (.bool true)))
  | _ => none
theorem ce2 {f : Nat} (hc : Sx.Callee Try.prog f) (g : Int → Int → Int) (h : ∀ a b, Con Try.prog f [.s (.int .i32 a), .s (.int .i32 b)] [] (.ret (.t (.s (.int .i32 (g a b)))) [])) : CEok Try.prog f (sp2 g) := ⟨hc, fun args p v he hp => by
  unfold sp2 at he; split at he
  · cases he; exact (h _ _).pure
  · cases he⟩
theorem ce1 {f : Nat} (hc : Sx.Callee Try.prog f) (g : Int → Int) (h : ∀ a, Con Try.prog f [.s (.int .i32 a)] [] (.ret (.t (.s (.int .i32 (g a)))) [])) : CEok Try.prog f (sp1 g) := ⟨hc, fun args p v he hp => by
  unfold sp1 at he; split at he
  · cases he; exact (h _).pure
  · cases he⟩
theorem ceHead : CEok Try.prog f_l03_head spHead := ⟨cal_l03_head, fun args p v h hp => by
  unfold spHead at h; split at h
  · cases h; exact head_c.pure
  · cases h⟩
def bsub (a b : Int) : Int := Wd (a + b)
def wsub (a b : Int) : Int := Wd (a + Wd (4 * b))
def bcnt (a : Int) : Int := Wd (4 * a)
theorem Bsub_c (a b : Int) : Con Try.prog f_mem_Bsub [.s (.int .i32 a), .s (.int .i32 b)] [] (.ret (.t (.s (.int .i32 (bsub a b)))) []) := by
  intro K hK
  refine enter fn_mem_Bsub rfl nt_mem_Bsub rfl rfl (fun φ w0 β0 F => ?_)
  refine c_run tt_ok (ct := []) trivial k_mem_Bsub [] 60 (by kernel_rfl) ?_
  exact fin_k tt_ok (rs := rs_mem_Bsub) rfl rfl hK [] (t1 (wrapW _)) rfl rfl rfl rfl rfl
theorem RBsub_c (a b : Int) : Con Try.prog f_r03_Bsub [.s (.int .i32 a), .s (.int .i32 b)] [] (.ret (.t (.s (.int .i32 (bsub a b)))) []) := by
  intro K hK
  refine enter fn_r03_Bsub rfl nt_r03_Bsub rfl rfl (fun φ w0 β0 F => ?_)
  refine c_run tt_ok (ct := []) trivial k_r03_Bsub [] 60 (by kernel_rfl) ?_
  exact fin_k tt_ok (rs := rs_r03_Bsub) rfl rfl hK [] (t1 (wrapW _)) rfl rfl rfl rfl rfl
theorem Wsub_c (a b : Int) : Con Try.prog f_mem_Wsub [.s (.int .i32 a), .s (.int .i32 b)] [] (.ret (.t (.s (.int .i32 (wsub a b)))) []) := by
  intro K hK
  refine enter fn_mem_Wsub rfl nt_mem_Wsub rfl rfl (fun φ w0 β0 F => ?_)
  refine c_run tt_ok (ct := []) trivial k_mem_Wsub [] 60 (by kernel_rfl) ?_
  exact fin_k tt_ok (rs := rs_mem_Wsub) rfl rfl hK [] (t1 (by rw [wrapW, wrapW]; rfl)) rfl rfl rfl rfl rfl
theorem RWsub_c (a b : Int) : Con Try.prog f_r03_Wsub [.s (.int .i32 a), .s (.int .i32 b)] [] (.ret (.t (.s (.int .i32 (wsub a b)))) []) := by
  intro K hK
  refine enter fn_r03_Wsub rfl nt_r03_Wsub rfl rfl (fun φ w0 β0 F => ?_)
  refine c_run tt_ok (ct := []) trivial k_r03_Wsub [] 60 (by kernel_rfl) ?_
  exact fin_k tt_ok (rs := rs_r03_Wsub) rfl rfl hK [] (t1 (by rw [wrapW, wrapW]; rfl)) rfl rfl rfl rfl rfl
theorem Bcnt_c (a : Int) : Con Try.prog f_mem_Bcnt [.s (.int .i32 a)] [] (.ret (.t (.s (.int .i32 (bcnt a)))) []) := by
  intro K hK
  refine enter fn_mem_Bcnt rfl nt_mem_Bcnt rfl rfl (fun φ w0 β0 F => ?_)
  refine c_run tt_ok (ct := []) trivial k_mem_Bcnt [] 60 (by kernel_rfl) ?_
  exact fin_k tt_ok (rs := rs_mem_Bcnt) rfl rfl hK [] (t1 (wrapW _)) rfl rfl rfl rfl rfl
noncomputable abbrev ctMA : CT := [(f_l03_head, .pure spHead), (f_mem_Bsub, .pure (sp2 bsub)), (f_r03_Bsub, .pure (sp2 bsub)), (f_mem_Wsub, .pure (sp2 wsub)), (f_r03_Wsub, .pure (sp2 wsub)), (f_mem_Bcnt, .pure (sp1 bcnt)), (f_mem_Wcnt, in_mem_Wcnt []), (f_r03_Wcnt, in_r03_Wcnt [])]
theorem ctMA_ok : CTok Try.prog ctMA := ⟨ceHead, ce2 cal_mem_Bsub _ Bsub_c, ce2 cal_r03_Bsub _ RBsub_c, ce2 cal_mem_Wsub _ Wsub_c, ce2 cal_r03_Wsub _ RWsub_c, ce1 cal_mem_Bcnt _ Bcnt_c, in_mem_Wcnt_ok trivial, in_r03_Wcnt_ok trivial, trivial⟩
theorem and3_i32 (v : Int) : bits .and .i32 v 3 = v % 4 := by
  have e : bits .and .i32 v 3 = IntKind.i32.wrap ((BitVec.ofInt 32 v &&& BitVec.ofInt 32 3).toNat : Int) := rfl
  have e15 : (BitVec.ofInt 32 3).toNat = 2 ^ 2 - 1 := by decide
  rw [e, BitVec.toNat_and, BitVec.toNat_ofInt, e15, Nat.and_two_pow_sub_one_eq_mod, IntKind.wrap_i32]
  omega
theorem tmod4 (n : Int) : (0 ≤ n → n.tmod 4 = n % 4) ∧ (n < 0 → n.tmod 4 = -((-n) % 4)) := by
  refine ⟨fun h => Int.tmod_eq_emod_of_nonneg h, fun h => ?_⟩
  have : n = -(-n) := by omega
  rw [this, Int.neg_tmod, Int.tmod_eq_emod_of_nonneg (by omega), Int.neg_neg]
theorem tdiv4 (z : Int) (h : z % 4 = 0) : z.tdiv 4 = z / 4 := by
  rcases Int.lt_or_le z 0 with h' | h'
  · have : z = -(-z) := by omega
    rw [this, Int.neg_tdiv, Int.tdiv_eq_ediv_of_nonneg (by omega), Int.neg_neg]; omega
  · exact Int.tdiv_eq_ediv_of_nonneg h'
theorem fdiv4 (n : Int) : n.fdiv (2 ^ min 2 IntKind.i32.bits) = n / 4 := Int.fdiv_eq_ediv_of_nonneg _ (by decide)
theorem wcnt_law {n t : Int} (hn : I32 n) (ht : t = n % 4) : IntKind.i32.wrap (IntKind.i64.wrap ((IntKind.i64.wrap (IntKind.i64.wrap n - IntKind.i64.wrap t)).tdiv 4)) = n / 4 := by
  unfold I32 at hn
  rw [wrap64 (n := n) (by omega) (by omega), wrap64 (n := t) (by omega) (by omega), wrap64 (n := n - t) (by omega) (by omega), tdiv4 _ (by omega), wrap64 (by omega) (by omega), wrapW]
  unfold Wd; omega
theorem addr_laws (a n : Int) : bcnt n = wsub 0 n ∧ bsub (wsub a (n / 4)) (n % 4) = bsub a n := by
  unfold bcnt wsub bsub Wd; omega
theorem MemAddresses_c (a n : Int) (ha : I32 a) (hn : I32 n) : Con Try.prog f_l03_MemAddresses [.s (.int .i32 a), .s (.int .i32 n)] [] (.ret (.t (.s (.bool true))) []) := by
  intro K hK
  refine enter fn_l03_MemAddresses rfl nt_l03_MemAddresses rfl rfl (fun φ w0 β0 F => ?_)
  refine c_run tt_ok ctMA_ok k_l03_MemAddresses [] 60 (by kernel_rfl) ?_
  refine ⟨fun h => ?_, fun h => ?_⟩
  · have h' := of_decide_eq_true h
    refine ⟨trivial, trivial, fun _ => trivial, fun _ => trivial, fun _ => trivial, fun _ => trivial, fun _ => trivial, fun _ => trivial, fun _ => trivial, fun _ => trivial, ?_⟩
    refine fin_k tt_ok (rs := rs_l03_MemAddresses) rfl rfl hK [] (t1b ?_) rfl rfl rfl rfl rfl
    have h3 := tmod4 n
    have ht : n.tmod 4 + 4 = n % 4 := by
      rcases Int.lt_or_le n 0 with h4 | h4
      · have := h3.2 h4; omega
      · have := h3.1 h4; omega
    have hw : IntKind.i32.wrap (n.tmod 4 + 4) = n % 4 := by rw [wrapW, ht]; unfold Wd; omega
    rw [fdiv4, and3_i32, hw, wcnt_law hn rfl, (addr_laws a n).1, (addr_laws a n).2]
    simp
  · have h' := of_decide_eq_false h
    refine ⟨trivial, trivial, fun _ => trivial, fun _ => trivial, fun _ => trivial, fun _ => trivial, fun _ => trivial, fun _ => trivial, fun _ => trivial, fun _ => trivial, ?_⟩
    refine fin_k tt_ok (rs := rs_l03_MemAddresses) rfl rfl hK [] (t1b ?_) rfl rfl rfl rfl rfl
    have h3 := tmod4 n
    have ht : n.tmod 4 = n % 4 := by
      rcases Int.lt_or_le n 0 with h4 | h4
      · have := h3.2 h4; omega
      · exact h3.1 h4
    rw [ht, fdiv4, and3_i32, wcnt_law hn rfl, (addr_laws a n).1, (addr_laws a n).2]
    simp
end Go.Proofs

namespace Go.Proofs
open Go Go.Sx
set_option maxRecDepth 10000
/-- The reference's functions. -/
theorem Index_c (a : Int) (ha : I32 a) : Con Try.prog f_r03_Index [.s (.int .i32 a)] [] (.ret (.t (.s (.int .i64 (ofAt a)))) []) := by
  intro K hK
  refine enter fn_r03_Index rfl nt_r03_Index rfl rfl (fun φ w0 β0 F => ?_)
  refine c_run tt_ok (ct := []) trivial k_r03_Index [] 60 (by kernel_rfl) ?_
  unfold I32 at ha
  exact fin_k tt_ok (rs := rs_r03_Index) rfl rfl hK [] (t1 (by rw [wrap64 (n := a) (by omega) (by omega), wrap64 (by omega) (by omega)]; rfl)) rfl rfl rfl rfl rfl
def spIndex : List TV → Option (Prop × FV)
  | [.s (.int .i32 a)] => some (I32 a, .t (.s (.int .i64 (ofAt a))))
  | _ => none
theorem ceIndex : CEok Try.prog f_r03_Index spIndex := ⟨cal_r03_Index, fun args p v h hp => by
  unfold spIndex at h; split at h
  · cases h; exact (Index_c _ hp).pure
  · cases h⟩
def liesB (n a k : Int) : Bool := bif bif decide (k ≥ 0) then decide (ofAt a < n) else false then decide (k ≤ n - ofAt a) else false
theorem lies_span (n : Nat) (a k : Int) (hk : 0 ≤ k) : liesB n a k = !spanBad n a k := by
  unfold liesB spanBad
  by_cases h1 : ofAt a < n <;> by_cases h2 : k ≤ n - ofAt a <;> simp [hk, h1, h2] <;> omega
noncomputable abbrev ctI : CT := [(f_r03_Index, .pure spIndex)]
theorem ctI_ok : CTok Try.prog ctI := ⟨ceIndex, trivial⟩
theorem Lies_c (n a k : Int) (h0 : 0 ≤ n) (hn : n ≤ 4294967296) (ha : I32 a) : Con Try.prog f_r03_Lies [.s (.int .i64 n), .s (.int .i32 a), .s (.int .i64 k)] [] (.ret (.t (.s (.bool (liesB n a k)))) []) := by
  intro K hK
  refine enter fn_r03_Lies rfl nt_r03_Lies rfl rfl (fun φ w0 β0 F => ?_)
  refine c_run tt_ok ctI_ok k_r03_Lies [] 60 (by kernel_rfl) ?_
  refine ⟨ha, ?_⟩
  refine fin_k tt_ok (rs := rs_r03_Lies) rfl rfl hK [] (t1b ?_) rfl rfl rfl rfl rfl
  unfold I32 at ha
  rw [wrap64 (n := n - ofAt a) (by unfold ofAt; omega) (by unfold ofAt; omega)]; rfl
def spLies : List TV → Option (Prop × FV)
  | [.s (.int .i64 n), .s (.int .i32 a), .s (.int .i64 k)] => some (0 ≤ n ∧ n ≤ 4294967296 ∧ I32 a, .t (.s (.bool (liesB n a k))))
  | _ => none
theorem ceLies : CEok Try.prog f_r03_Lies spLies := ⟨cal_r03_Lies, fun args p v h hp => by
  unfold spLies at h; split at h
  · cases h; exact (Lies_c _ _ _ hp.1 hp.2.1 hp.2.2).pure
  · cases h⟩
noncomputable abbrev ctJ : CT := [(f_r03_Index, .pure spIndex), (f_r03_Lies, .pure spLies)]
theorem ctJ_ok : CTok Try.prog ctJ := ⟨ceIndex, ceLies, trivial⟩
theorem RByte_c (l : List Int) (cap : Nat) (a : Int) (hn : l.length ≤ 65536) (ha : I32 a) : Con Try.prog f_r03_Byte [.s (.sl 0 0 l.length cap), .s (.int .i32 a)] [.view (bytesI l)]
    (.br (liesB l.length a 1) (.ret (.tup [.s (.int .u8 (l.getD (ofAt a).toNat 0)), .s (.int .i64 0)]) [.view (bytesI l)])
      (.ret (.tup [.s (.int .u8 0), .s (.int .i64 4)]) [.view (bytesI l)])) := by
  intro K ⟨hK1, hK2⟩
  refine enter fn_r03_Byte rfl nt_r03_Byte rfl rfl (fun φ w0 β0 F => ?_)
  refine c_run tt_ok ctJ_ok k_r03_Byte [] 60 (by kernel_rfl) ?_
  refine ⟨⟨by omega, by omega, ha⟩, fun h => ?_, fun h => ?_⟩
  · exact fin_k tt_ok (rs := rs_r03_Byte) rfl rfl (hK2 (by simpa using h)) [0] rfl rfl rfl rfl rfl rfl
  · have hb : liesB l.length a 1 = true := by simpa using h
    have hi := spanBad_i ha (k := 1) (n := l.length) (by have := lies_span l.length a 1 (by decide); rw [hb] at this; simpa using this.symm)
    refine ⟨ha, (ofAt a).toNat, ⟨by omega, by omega, by simp; omega⟩, .int .u8 (l.getD (ofAt a).toNat 0), rfl, ?_, ?_⟩
    · show (bytesI l)[0 + (ofAt a).toNat * (0 + 1)]? = _
      rw [Nat.zero_add, Nat.zero_add, Nat.mul_one]
      exact bytesI_at (l := l) (j := (ofAt a).toNat) (by omega)
    · exact fin_k tt_ok (rs := rs_r03_Byte) rfl rfl (hK1 hb) [0] rfl rfl rfl rfl rfl rfl
end Go.Proofs

namespace Go.Proofs
open Go Go.Sx
set_option maxRecDepth 10000
theorem RWord_c (l : List Int) (cap : Nat) (a : Int) (hn : l.length ≤ 65536) (h4 : l.length % 4 = 0) (ha : I32 a) (hl : ∀ b ∈ l, 0 ≤ b ∧ b < 256) : Con Try.prog f_r03_Word [.s (.sl 0 0 l.length cap), .s (.int .i32 a)] [.view (bytesI l)]
    (.br (liesB l.length a 1) (.ret (.tup [.s (.int .i32 (getW l (ofAt (wAt a)).toNat)), .s (.int .i64 0)]) [.view (bytesI l)])
      (.ret (.tup [.s (.int .i32 0), .s (.int .i64 4)]) [.view (bytesI l)])) := by
  intro K ⟨hK1, hK2⟩
  refine enter fn_r03_Word rfl nt_r03_Word rfl rfl (fun φ w0 β0 F => ?_)
  refine c_run tt_ok ctJ_ok k_r03_Word [] 60 (by kernel_rfl) ?_
  refine ⟨⟨by omega, by omega, ha⟩, fun h => ?_, fun h => ?_⟩
  · exact fin_k tt_ok (rs := rs_r03_Word) rfl rfl (hK2 (by simpa using h)) [0] rfl rfl rfl rfl rfl rfl
  · have hb : liesB l.length a 1 = true := by simpa using h
    have hi := spanBad_i ha (k := 1) (n := l.length) (by have := lies_span l.length a 1 (by decide); rw [hb] at this; simpa using this.symm)
    have ei : IntKind.i64.wrap (ofAt a - (ofAt a).tmod 4) = ofAt (wAt a) := by
      rw [(tmod4 _).1 hi.1, wrap64 (by omega) (by omega)]; unfold ofAt wAt; omega
    have hw : 0 ≤ ofAt (wAt a) ∧ ofAt (wAt a) + 4 ≤ l.length := by unfold ofAt wAt at *; omega
    generalize hI : (ofAt (wAt a)).toNat = i at *
    have g : ∀ k, k < 4 → (bytesI l)[0 + (i + k) * (0 + 1)]? = some (SV.int .u8 (l.getD (i + k) 0)).cv := fun k hk => by
      rw [Nat.zero_add, Nat.zero_add, Nat.mul_one]; exact bytesI_at (by omega)
    refine ⟨ha, i + 0, ⟨by rw [ei]; omega, by omega, by simp; omega⟩, .int .u8 (l.getD (i + 0) 0), rfl, g 0 (by decide), ?_⟩
    refine ⟨i + 1, ⟨by rw [ei, wrap64 (by omega) (by omega)]; omega, by omega, by simp; omega⟩, .int .u8 (l.getD (i + 1) 0), rfl, g 1 (by decide), ?_⟩
    refine ⟨i + 2, ⟨by rw [ei, wrap64 (by omega) (by omega)]; omega, by omega, by simp; omega⟩, .int .u8 (l.getD (i + 2) 0), rfl, g 2 (by decide), ?_⟩
    refine ⟨i + 3, ⟨by rw [ei, wrap64 (by omega) (by omega)]; omega, by omega, by simp; omega⟩, .int .u8 (l.getD (i + 3) 0), rfl, g 3 (by decide), ?_⟩
    refine fin_k tt_ok (rs := rs_r03_Word) rfl rfl (hK1 hb) [0] (t2 ?_ rfl) rfl rfl rfl rfl rfl
    have hx : ∀ k, k < 4 → 0 ≤ l.getD (i + k) 0 ∧ l.getD (i + k) 0 < 256 := fun k hk => by
      have : l.getD (i + k) 0 ∈ l := by
        rw [List.getD_eq_getElem?_getD, List.getElem?_eq_getElem (by omega)]; exact List.getElem_mem _
      exact hl _ this
    have h0' := hx 0 (by decide)
    have h1' := hx 1 (by decide)
    have h2' := hx 2 (by decide)
    have h3' := hx 3 (by decide)
    unfold getW
    generalize l.getD (i + 1) 0 = b1 at *
    generalize l.getD (i + 2) 0 = b2 at *
    generalize l.getD (i + 3) 0 = b3 at *
    simp only [Nat.add_zero] at h0' ⊢
    generalize l.getD i 0 = b0 at *
    rw [wrapW]
    simp only [IntKind.wrap_u32]
    unfold Wd; omega
end Go.Proofs

namespace Go.Proofs
open Go Go.Sx
set_option maxRecDepth 10000
theorem Four_c (v : Int) : Con Try.prog f_r03_Four [.s (.int .i32 v)] [] (.ret (.t (.s (.sl 0 0 4 4))) [.own 5 1 4 (bytesI [byK v 0, byK v 1, byK v 2, byK v 3])]) := by
  intro K hK
  refine enter fn_r03_Four rfl nt_r03_Four rfl rfl (fun φ w0 β0 F => ?_)
  refine c_run tt_ok (ct := []) trivial k_r03_Four [] 60 (by kernel_rfl) ?_
  refine fin_k tt_ok (rs := rs_r03_Four) rfl rfl hK [0] rfl ?_ rfl rfl rfl rfl
  have e0 : IntKind.u8.wrap (IntKind.u32.wrap v) = byK v 0 := by rw [IntKind.wrap_u8, IntKind.wrap_u32]; unfold byK Uw; omega
  have e : ∀ (k : Nat) (q : Int), 1 ≤ q → q = 256 ^ k → IntKind.u8.wrap (IntKind.u32.wrap ((IntKind.u32.wrap v).tdiv q)) = byK v k := fun k q hq1 hq => by
    rw [IntKind.wrap_u8, IntKind.wrap_u32, IntKind.wrap_u32, Int.tdiv_eq_ediv_of_nonneg (by omega), hq]
    have h1 : 0 ≤ Uw v / q := Int.ediv_nonneg (Uw_lo v) (by omega)
    have h2 : Uw v / q ≤ Uw v := Int.ediv_le_self _ (Uw_lo v)
    have h3 := Uw_hi v
    rw [hq] at h1 h2
    show Uw v / 256 ^ k % 4294967296 % 256 = Uw v / 256 ^ k % 256
    omega
  rw [e0, e 1 256 (by decide) (by decide), e 2 65536 (by decide) (by decide), e 3 16777216 (by decide) (by decide)]; rfl
end Go.Proofs

namespace Go.Proofs
open Go Go.Sx
set_option maxRecDepth 10000
/-- From, of a slice that the caller owns. -/
theorem From_o (l : List Int) (cap : Nat) : Con Try.prog f_mem_From [.s (.sl 0 0 l.length cap)] [.own 5 1 cap (bytesI l)] (.br (mayM l.length)
    (.ret (.tup [.s (.loc 1 0), .s (.int .i64 0)]) [.own 5 1 cap (bytesI l), .blk 55 [.sl 2 0 l.length l.length], mOwn l])
    (.ret (.tup [.s (.raw (.pointer none)), .s (.int .i64 2)]) [.own 5 1 cap (bytesI l)])) := by
  intro K ⟨hK1, hK2⟩
  refine enter fn_mem_From rfl nt_mem_From rfl rfl (fun φ w0 β0 F => ?_)
  refine c_run tt_ok ctM_ok k_mem_From [] 60 (by kernel_rfl) ?_
  refine ⟨fun h => ?_, fun h => ?_⟩
  · have hb : mayM l.length = false := by simpa using h
    exact fin_k tt_ok (rs := rs_mem_From) rfl rfl (hK2 hb) [0] rfl rfl rfl rfl rfl rfl
  · have hb : mayM l.length = true := by simpa using h
    obtain ⟨k, e, h1, h2⟩ := mayM_nat hb
    refine ⟨l.length, ⟨rfl, rfl, by simp only [maxLen]; omega, by omega⟩, ?_⟩
    refine ⟨l.length, ⟨by simp, by simp, by simp, by rw [seg_bytesI]; exact bytesI_one _⟩, ?_⟩
    refine fin_k tt_ok (rs := rs_mem_From) rfl rfl (hK1 hb) [0, 2, 1] rfl ?_ rfl rfl rfl rfl
    show pickL [Ch.own 5 1 cap (bytesI l), Ch.own 5 1 l.length (setV (List.replicate l.length (Value.int .u8 0)) 0 (seg (bytesI l) 0 l.length)), Ch.blk 55 [SV.sl 1 0 l.length l.length]] [0, 2, 1] = _
    rw [copy_all l _ (by simp)]; rfl
def sameB (a b : List Int) : Bool := (a.map fun n => UInt8.ofNat n.toNat) == (b.map fun n => UInt8.ofNat n.toNat)
theorem Same_ov (a b : List Int) (ca cb : Nat) : Con Try.prog f_r03_Same [.s (.sl 0 0 a.length ca), .s (.sl 1 0 b.length cb)] [.own 5 1 ca (bytesI a), .view (bytesI b)] (.ret (.t (.s (.bool (sameB a b)))) [.own 5 1 ca (bytesI a), .view (bytesI b)]) := by
  intro K hK
  refine enter fn_r03_Same rfl nt_r03_Same rfl rfl (fun φ w0 β0 F => ?_)
  refine c_run tt_ok (ct := []) trivial k_r03_Same [] 60 (by kernel_rfl) ?_
  refine ⟨a, ⟨by rw [seg_bytesI, List.drop_zero, List.take_of_length_le (by simp)]; rfl, rfl⟩, b, ⟨by rw [seg_bytesI, List.drop_zero, List.take_of_length_le (by simp)]; rfl, rfl⟩, ?_⟩
  exact fin_k tt_ok (rs := rs_r03_Same) rfl rfl hK [0, 1] rfl rfl rfl rfl rfl rfl
theorem Same_vv (a b : List Int) (ca cb : Nat) : Con Try.prog f_r03_Same [.s (.sl 0 0 a.length ca), .s (.sl 1 0 b.length cb)] [.view (bytesI a), .view (bytesI b)] (.ret (.t (.s (.bool (sameB a b)))) [.view (bytesI a), .view (bytesI b)]) := by
  intro K hK
  refine enter fn_r03_Same rfl nt_r03_Same rfl rfl (fun φ w0 β0 F => ?_)
  refine c_run tt_ok (ct := []) trivial k_r03_Same [] 60 (by kernel_rfl) ?_
  refine ⟨a, ⟨by rw [seg_bytesI, List.drop_zero, List.take_of_length_le (by simp)]; rfl, rfl⟩, b, ⟨by rw [seg_bytesI, List.drop_zero, List.take_of_length_le (by simp)]; rfl, rfl⟩, ?_⟩
  exact fin_k tt_ok (rs := rs_r03_Same) rfl rfl hK [0, 1] rfl rfl rfl rfl rfl rfl
theorem Same_oo (a b : List Int) (ca cb : Nat) : Con Try.prog f_r03_Same [.s (.sl 0 0 a.length ca), .s (.sl 1 0 b.length cb)] [.own 5 1 ca (bytesI a), .own 5 1 cb (bytesI b)] (.ret (.t (.s (.bool (sameB a b)))) [.own 5 1 ca (bytesI a), .own 5 1 cb (bytesI b)]) := by
  intro K hK
  refine enter fn_r03_Same rfl nt_r03_Same rfl rfl (fun φ w0 β0 F => ?_)
  refine c_run tt_ok (ct := []) trivial k_r03_Same [] 60 (by kernel_rfl) ?_
  refine ⟨a, ⟨by rw [seg_bytesI, List.drop_zero, List.take_of_length_le (by simp)]; rfl, rfl⟩, b, ⟨by rw [seg_bytesI, List.drop_zero, List.take_of_length_le (by simp)]; rfl, rfl⟩, ?_⟩
  exact fin_k tt_ok (rs := rs_r03_Same) rfl rfl hK [0, 1] rfl rfl rfl rfl rfl rfl
end Go.Proofs

namespace Go.Proofs
open Go Go.Sx
set_option maxRecDepth 10000
noncomputable abbrev eFromO : Ent := .st (conS (P := Try.prog) (f := f_mem_From) fun cargs σ0 => match cargs, σ0 with
  | [.s (.sl 0 0 n cap)], [.own 5 1 c xs] => some ⟨.ex (List Int) fun l => .ask (xs = bytesI l ∧ n = l.length ∧ c = cap)
      (.br (mayM l.length) (.ret (.tup [.s (.loc 1 0), .s (.int .i64 0)]) [.own 5 1 cap (bytesI l), .blk 55 [.sl 2 0 l.length l.length], mOwn l])
        (.ret (.tup [.s (.raw (.pointer none)), .s (.int .i64 2)]) [.own 5 1 cap (bytesI l)])), fun K h => by
      obtain ⟨l, ⟨e1, e2, e3⟩, h⟩ := h
      subst e1; subst e2; subst e3
      exact From_o l _ K h⟩
  | _, _ => none)
noncomputable abbrev eBytes : Ent := .st (conS (P := Try.prog) (f := f_mem_Mem_Bytes) fun cargs σ0 => match cargs, σ0 with
  | [.s (.loc 0 0)], [.blk 55 [.sl 1 0 n n'], .own 5 1 c xs] => some ⟨.ex (List Int) fun l => .ask (xs = bytesI l ∧ n = l.length ∧ n' = l.length ∧ c = l.length ∧ l.length ≤ 65536 ∧ 1 ≤ l.length)
      (.ret (.t (.s (.sl 2 0 l.length l.length))) [mBox l.length, mOwn l, mOwn l]), fun K h => by
      obtain ⟨l, ⟨e1, e2, e3, e4, h1, h0⟩, h⟩ := h
      subst e1; subst e2; subst e3; subst e4
      exact Bytes_c l h1 h0 K h⟩
  | _, _ => none)
noncomputable abbrev eSame : Ent := .st (conS (P := Try.prog) (f := f_r03_Same) fun cargs σ0 => match cargs, σ0 with
  | [.s (.sl 0 0 n ca), .s (.sl 1 0 m cb)], [.own 5 1 c xs, .view ys] => some ⟨.ex (List Int × List Int) fun p => .ask (xs = bytesI p.1 ∧ ys = bytesI p.2 ∧ n = p.1.length ∧ m = p.2.length ∧ c = ca)
      (.ret (.t (.s (.bool (sameB p.1 p.2)))) [.own 5 1 ca (bytesI p.1), .view (bytesI p.2)]), fun K h => by
      obtain ⟨⟨a, b⟩, ⟨e1, e2, e3, e4, e5⟩, h⟩ := h
      subst e1; subst e2; subst e3; subst e4; subst e5
      exact Same_ov a b _ _ K h⟩
  | [.s (.sl 0 0 n ca), .s (.sl 1 0 m cb)], [.own 5 1 c xs, .own 5 1 c' ys] => some ⟨.ex (List Int × List Int) fun p => .ask (xs = bytesI p.1 ∧ ys = bytesI p.2 ∧ n = p.1.length ∧ m = p.2.length ∧ c = ca ∧ c' = cb)
      (.ret (.t (.s (.bool (sameB p.1 p.2)))) [.own 5 1 ca (bytesI p.1), .own 5 1 cb (bytesI p.2)]), fun K h => by
      obtain ⟨⟨a, b⟩, ⟨e1, e2, e3, e4, e5, e6⟩, h⟩ := h
      subst e1; subst e2; subst e3; subst e4; subst e5; subst e6
      exact Same_oo a b _ _ K h⟩
  | [.s (.sl 0 0 n ca), .s (.sl 1 0 m cb)], [.view xs, .view ys] => some ⟨.ex (List Int × List Int) fun p => .ask (xs = bytesI p.1 ∧ ys = bytesI p.2 ∧ n = p.1.length ∧ m = p.2.length)
      (.ret (.t (.s (.bool (sameB p.1 p.2)))) [.view (bytesI p.1), .view (bytesI p.2)]), fun K h => by
      obtain ⟨⟨a, b⟩, ⟨e1, e2, e3, e4⟩, h⟩ := h
      subst e1; subst e2; subst e3; subst e4
      exact Same_vv a b _ _ K h⟩
  | _, _ => none)
noncomputable abbrev eRWord : Ent := .st (conS (P := Try.prog) (f := f_r03_Word) fun cargs σ0 => match cargs, σ0 with
  | [.s (.sl 0 0 n cap), .s (.int .i32 a)], [.view xs] => some ⟨.ex (List Int) fun l => .ask (xs = bytesI l ∧ n = l.length ∧ l.length ≤ 65536 ∧ l.length % 4 = 0 ∧ I32 a ∧ ∀ b ∈ l, 0 ≤ b ∧ b < 256)
      (.br (liesB l.length a 1) (.ret (.tup [.s (.int .i32 (getW l (ofAt (wAt a)).toNat)), .s (.int .i64 0)]) [.view (bytesI l)])
        (.ret (.tup [.s (.int .i32 0), .s (.int .i64 4)]) [.view (bytesI l)])), fun K h => by
      obtain ⟨l, ⟨e1, e2, h1, h2, h3, h4⟩, h⟩ := h
      subst e1; subst e2
      exact RWord_c l cap a h1 h2 h3 h4 K h⟩
  | _, _ => none)
def spMay : List TV → Option (Prop × FV)
  | [.s (.int .i64 n)] => some (True, .t (.s (.bool (mayM n))))
  | _ => none
theorem ceMay : CEok Try.prog f_r03_May spMay := ⟨cal_r03_May, fun args p v h hp => by
  unfold spMay at h; split at h
  · cases h; exact (RMay_c _).pure
  · cases h⟩
noncomputable abbrev ctF : CT := [(f_l03_head, .pure spHead), (f_r03_May, .pure spMay), (f_mem_From, eFromO), (f_mem_Mem_Bytes, eBytes), (f_r03_Same, eSame), (f_mem_Mem_Word, eWord), (f_r03_Word, eRWord)]
theorem ctF_ok : CTok Try.prog ctF := ⟨ceHead, ceMay, con_ok cal_mem_From _, con_ok cal_mem_Mem_Bytes _, con_ok cal_r03_Same _, con_ok cal_mem_Mem_Word _, con_ok cal_r03_Word _, trivial⟩
theorem mayM_mod {n : Nat} (h : mayM n = true) : n % 4 = 0 := by
  unfold mayM at h
  by_cases h1 : (n : Int) ≥ 1024 <;> by_cases h2 : (n : Int) ≤ 65536 <;> simp [h1, h2] at h
  rw [(tmod4 _).1 (by omega)] at h; omega
theorem span_word {n : Nat} {a : Int} (ha : I32 a) (h : n % 4 = 0) : spanBad n (wAt a) 4 = !liesB n a 1 := by
  unfold I32 at ha
  unfold liesB spanBad
  by_cases h1 : ofAt a < n
  · have h2 : ¬ ofAt (wAt a) ≥ n := by unfold ofAt wAt at *; omega
    have h3 : ¬ (4 > n - ofAt (wAt a)) := by unfold ofAt wAt at *; omega
    have h4 : (1 : Int) ≤ n - ofAt a := by omega
    simp only [decide_eq_false h2, decide_eq_false h3, decide_eq_true h1, decide_eq_true h4]; rfl
  · have h2 : ofAt (wAt a) ≥ n := by unfold ofAt wAt at *; omega
    simp only [decide_eq_true h2, decide_eq_false h1]; rfl
theorem MemFrom_c (l : List Int) (cap : Nat) (a : Int) (hl : ∀ b ∈ l, 0 ≤ b ∧ b < 256) (ha : I32 a) : Con Try.prog f_l03_MemFrom [.s (.sl 0 0 l.length cap), .s (.int .i32 a)] [.view (bytesI l)] (.ret (.t (.s (.bool true))) [.view (bytesI l)]) := by
  intro K hK
  refine enter fn_l03_MemFrom rfl nt_l03_MemFrom rfl rfl (fun φ w0 β0 F => ?_)
  refine c_run tt_ok ctF_ok k_l03_MemFrom [] 60 (by kernel_rfl) ?_
  refine ⟨fun h1 => ⟨trivial, ?_⟩, fun h1 => ?_⟩
  · exact fin_k tt_ok (rs := rs_l03_MemFrom) rfl rfl hK [0] rfl rfl rfl rfl rfl rfl
  have hn : l.length ≤ 70000 := by simp at h1; omega
  refine ⟨⟨rfl, by simp, by simp, by rw [seg_bytesI]; exact bytesI_one _, by simp only [maxLen]; omega, by omega⟩, fun c1 hc1 hc2 => ?_⟩
  refine ⟨l, ⟨by simp [seg_bytesI], by simp, rfl⟩, fun hm => ?_, fun hm => ?_⟩
  · refine ⟨trivial, fun hb => ⟨(l, l), ⟨?_, ?_, ?_, ?_, ?_⟩, fun hc => ?_, fun hc => ?_⟩, fun hb => ?_⟩
    · rfl
    · rfl
    · simp
    · rfl
    · rfl
    · exfalso
      rw [hm, show sameB l l = true by simp [sameB]] at hc
      simp at hc
    · refine ⟨fun h => absurd h (by decide), fun _ => ?_⟩
      show WpC _ _ _ _ _
      refine c_loop (α := Nat × List Int) (fun p => p.1 ≤ l.length ∧ p.2.length = l.length) (fun p => l.length - p.1)
        (fun p => [(0, .t (.s (.sl 0 0 l.length cap)), none), (1, .t (.s (.int .i32 a)), none), (5, .t (.s (.sl 1 0 l.length c1)), none), (6, .t (.s (.loc 2 0)), none), (8, .t (.s (.int .i64 (p.1 : Int))), none)])
        (fun p => [.view (bytesI l), .own 5 1 c1 (bytesI p.2), .blk 55 [.sl 3 0 l.length l.length], mOwn l]) (0, l) ⟨Nat.zero_le _, rfl⟩ ?_ ?_
      · refine into [0, 2, 3, 4] ⟨⟨_, rfl, rfl⟩, ⟨_, rfl, rfl⟩, ⟨_, rfl, ?_⟩, ⟨_, rfl, rfl⟩, ⟨_, rfl, rfl⟩, trivial⟩ ⟨_, rfl, ?_⟩ rfl rfl rfl rfl
        · rw [Nat.zero_add]; rfl
        · rfl
      · rintro ⟨k, q⟩ ⟨hk, hq⟩
        simp only at hk hq
        dsimp only
        refine c_run' tt_ok ctF_ok k_l03_MemFrom [] 60 (by kernel_rfl) (by kernel_rfl) ?_
        refine ⟨fun h3 => ?_, fun h3 => ?_⟩
        · have h3' := of_decide_eq_true h3
          refine ⟨k, ⟨rfl, by omega, by simp; omega⟩, .int .u8 (q.getD k 0), rfl, ?_, k, ⟨rfl, by omega, by simp; omega⟩, by show 0 + k * (0 + 1) + 1 ≤ _; simp; omega, ?_⟩
          · show (bytesI q)[0 + k * (0 + 1)]? = _
            rw [Nat.zero_add, Nat.zero_add, Nat.mul_one]; exact bytesI_at (by omega)
          · refine e_again (k + 1, setL q k [IntKind.u8.wrap (q.getD k 0 + 1)]) ⟨show k + 1 ≤ l.length by omega, by show (setL q k _).length = _; rw [setL_length (by simp; omega), hq]⟩ (show l.length - (k + 1) < l.length - k by omega)
              (into [0, 1, 2, 3] ⟨⟨_, rfl, rfl⟩, ⟨_, rfl, rfl⟩, ⟨_, rfl, rfl⟩, ⟨_, rfl, rfl⟩, ⟨_, rfl, fvi (wrapSucc (by omega))⟩, trivial⟩ ⟨_, rfl, ?_⟩ rfl rfl rfl rfl)
            show [Ch.view (bytesI l), Ch.own 5 1 c1 (setV (bytesI q) (0 + k * (0 + 1)) (bytesI [IntKind.u8.wrap (q.getD k 0 + 1)])), Ch.blk 55 [SV.sl 3 0 l.length l.length], mOwn l] = _
            rw [setV_bytesI, Nat.zero_add, Nat.zero_add, Nat.mul_one]; rfl
        · clear h3
          obtain ⟨m, em, hm1, hm2⟩ := mayM_nat hm
          have h4 := mayM_mod hm
          refine ⟨l, ⟨rfl, rfl, rfl, rfl, by omega, by omega⟩, ?_⟩
          show WpC _ _ _ _ _
          refine c_loop (α := Nat × List Int) (fun p => p.1 ≤ l.length ∧ p.2.length = l.length) (fun p => l.length - p.1)
            (fun p => [(0, .t (.s (.sl 0 0 l.length cap)), none), (1, .t (.s (.int .i32 a)), none), (6, .t (.s (.loc 1 0)), none), (9, .t (.s (.sl 3 0 l.length l.length)), none), (10, .t (.s (.int .i64 (p.1 : Int))), none)])
            (fun p => [.view (bytesI l), .blk 55 [.sl 2 0 l.length l.length], mOwn l, .own 5 1 l.length (bytesI p.2)]) (0, l) ⟨Nat.zero_le _, rfl⟩ ?_ ?_
          · exact into [0, 2, 3, 4] ⟨⟨_, rfl, rfl⟩, ⟨_, rfl, rfl⟩, ⟨_, rfl, rfl⟩, ⟨_, rfl, rfl⟩, ⟨_, rfl, rfl⟩, trivial⟩ ⟨_, rfl, rfl⟩ rfl rfl rfl rfl
          · rintro ⟨k, q⟩ ⟨hk, hq⟩
            simp only at hk hq
            dsimp only
            refine c_run' tt_ok ctF_ok k_l03_MemFrom [] 60 (by kernel_rfl) (by kernel_rfl) ?_
            refine ⟨fun h3 => ?_, fun h3 => ?_⟩
            · have h3' := of_decide_eq_true h3
              refine ⟨k, ⟨rfl, by omega, by simp; omega⟩, .int .u8 (q.getD k 0), rfl, ?_, k, ⟨rfl, by omega, by simp; omega⟩, by show 0 + k * (0 + 1) + 1 ≤ _; simp; omega, ?_⟩
              · show (bytesI q)[0 + k * (0 + 1)]? = _
                rw [Nat.zero_add, Nat.zero_add, Nat.mul_one]; exact bytesI_at (by omega)
              · refine e_again (k + 1, setL q k [IntKind.u8.wrap (q.getD k 0 + 3)]) ⟨show k + 1 ≤ l.length by omega, by show (setL q k _).length = _; rw [setL_length (by simp; omega), hq]⟩ (show l.length - (k + 1) < l.length - k by omega)
                  (into [0, 1, 2, 3] ⟨⟨_, rfl, rfl⟩, ⟨_, rfl, rfl⟩, ⟨_, rfl, rfl⟩, ⟨_, rfl, rfl⟩, ⟨_, rfl, fvi (wrapSucc (by omega))⟩, trivial⟩ ⟨_, rfl, ?_⟩ rfl rfl rfl rfl)
                show [Ch.view (bytesI l), Ch.blk 55 [SV.sl 2 0 l.length l.length], mOwn l, Ch.own 5 1 l.length (setV (bytesI q) (0 + k * (0 + 1)) (bytesI [IntKind.u8.wrap (q.getD k 0 + 3)]))] = _
                rw [setV_bytesI, Nat.zero_add, Nat.zero_add, Nat.mul_one]; rfl
            · refine ⟨l, ⟨rfl, rfl, rfl, rfl, by omega, by omega, ha, hl⟩, fun hs => ⟨l, ⟨rfl, rfl, by omega, h4, ha, hl⟩, fun hr => ?_, fun hr => ?_⟩, fun hs => ⟨l, ⟨rfl, rfl, by omega, h4, ha, hl⟩, fun hr => ?_, fun hr => ?_⟩⟩
              · exfalso; have := span_word (n := l.length) ha h4; rw [hs, hr] at this; cases this
              · skip
                refine ⟨l, ⟨rfl, rfl, rfl, rfl, by omega, by omega⟩, (l, l), ⟨rfl, rfl, rfl, rfl, rfl⟩, fun _ => trivial, ?_⟩
                refine fin_k tt_ok (rs := rs_l03_MemFrom) rfl rfl hK [0] (t1b ?_) rfl rfl rfl rfl rfl
                rw [show sameB (l, l).1 (l, l).2 = true by simp [sameB]]; simp
              · skip
                refine ⟨l, ⟨rfl, rfl, rfl, rfl, by omega, by omega⟩, (l, l), ⟨rfl, rfl, rfl, rfl, rfl⟩, fun _ => trivial, ?_⟩
                refine fin_k tt_ok (rs := rs_l03_MemFrom) rfl rfl hK [0] (t1b ?_) rfl rfl rfl rfl rfl
                rw [show sameB (l, l).1 (l, l).2 = true by simp [sameB]]; simp
              · exfalso; have := span_word (n := l.length) ha h4; rw [hs, hr] at this; cases this
    · exfalso
      rw [hm] at hb
      simp at hb
  · refine ⟨trivial, fun hb => ⟨(l, l), ⟨?_, ?_, ?_, ?_, ?_⟩, fun hc => ?_, fun hc => ?_⟩, fun hb => ?_⟩
    · rfl
    · rfl
    · simp
    · rfl
    · rfl
    · exfalso
      rw [hm, show sameB l l = true by simp [sameB]] at hc
      simp at hc
    · refine ⟨fun h => ⟨trivial, ?_⟩, fun h => absurd h (by decide)⟩
      exact fin_k tt_ok (rs := rs_l03_MemFrom) rfl rfl hK [0] rfl rfl rfl rfl rfl rfl
    · exfalso
      rw [hm] at hb
      simp at hb
theorem u8_fit {x : Int} (h : (Lit.int .u8 x).wf = true) : 0 ≤ x ∧ x < 256 := by
  simp [Lit.wf, IntKind.min, IntKind.max, IntKind.signed, IntKind.bits] at h
  omega
end Go.Proofs

namespace Go.Proofs
open Go Go.Sx
set_option maxRecDepth 10000
theorem setL_get {l : List Int} {i j : Nat} {b : Int} (h : i < l.length) : (setL l i [b]).getD j 0 = if j = i then b else l.getD j 0 := by
  unfold setL
  simp only [List.getD_eq_getElem?_getD]
  by_cases h1 : j < i
  · rw [List.append_assoc, List.getElem?_append_left (by simp; omega), List.getElem?_take_of_lt h1, if_neg (by omega)]
  · by_cases h2 : j = i
    · subst h2
      rw [List.append_assoc, List.getElem?_append_right (by simp; omega)]
      simp [show min j l.length = j by omega]
    · rw [List.getElem?_append_right (by simp; omega), if_neg h2]
      simp only [List.length_append, List.length_take, List.length_cons, List.length_nil, List.getElem?_drop]
      congr 2
      omega
theorem stW_get {l : List Int} {i : Nat} {v : Int} (h : i + 4 ≤ l.length) : ∀ k, k ≤ 4 → ∀ j, (stW l i v k).getD j 0 = if i ≤ j ∧ j < i + k then byK v (j - i) else l.getD j 0
  | 0, _, j => by rw [if_neg (by omega)]; rfl
  | k + 1, hk, j => by
    unfold stW
    rw [setL_get (by rw [stW_length h k (by omega)]; omega), stW_get h k (by omega) j]
    by_cases h1 : j = i + k
    · subst h1; rw [if_pos rfl, if_pos (by omega)]; congr 1; omega
    · rw [if_neg h1]
      by_cases h2 : i ≤ j ∧ j < i + k
      · rw [if_pos h2, if_pos (by omega)]
      · rw [if_neg h2, if_neg (by omega)]
theorem byK_range (v : Int) (k : Nat) : 0 ≤ byK v k ∧ byK v k < 256 := by unfold byK; omega
theorem getW_setW {l : List Int} {i : Nat} {v : Int} (h : i + 4 ≤ l.length) (hv : I32 v) : getW (setW l i v) i = v := by
  unfold getW setW
  rw [stW_get h 4 (by decide), stW_get h 4 (by decide), stW_get h 4 (by decide), stW_get h 4 (by decide)]
  rw [if_pos (by omega), if_pos (by omega), if_pos (by omega), if_pos (by omega)]
  rw [show i - i = 0 by omega, show i + 1 - i = 1 by omega, show i + 2 - i = 2 by omega, show i + 3 - i = 3 by omega]
  have e : Uw v = byK v 0 + 256 * byK v 1 + 65536 * byK v 2 + 16777216 * byK v 3 := by
    have := Uw_lo v
    have := Uw_hi v
    unfold byK
    have p0 : (256 : Int) ^ 0 = 1 := rfl
    have p1 : (256 : Int) ^ 1 = 256 := rfl
    have p2 : (256 : Int) ^ 2 = 65536 := rfl
    have p3 : (256 : Int) ^ 3 = 16777216 := rfl
    rw [p0, p1, p2, p3]; omega
  rw [← e]
  rw [Wd_Uw, Wd_of hv]
theorem setW_bytes {l : List Int} {i : Nat} {v : Int} (h : i + 4 ≤ l.length) (hl : ∀ b ∈ l, 0 ≤ b ∧ b < 256) : ∀ b ∈ setW l i v, 0 ≤ b ∧ b < 256 := by
  intro b hb
  obtain ⟨j, hj, rfl⟩ := List.mem_iff_getElem.1 hb
  have hlen : (setW l i v).length = l.length := stW_length h 4 (by decide)
  have e : (setW l i v)[j] = (setW l i v).getD j 0 := by simp [hj]
  rw [e]
  show 0 ≤ (stW l i v 4).getD j 0 ∧ _
  unfold setW
  rw [stW_get h 4 (by decide)]
  split
  · exact byK_range _ _
  · have hj' : j < l.length := by omega
    have : l.getD j 0 = l[j] := by simp [hj']
    rw [this]; exact hl _ (List.getElem_mem _)
end Go.Proofs

namespace Go.Proofs
open Go Go.Sx
set_option maxRecDepth 10000
noncomputable abbrev eFromV : Ent := .st (conS (P := Try.prog) (f := f_mem_From) fun cargs σ0 => match cargs, σ0 with
  | [.s (.sl 0 0 n cap)], [.view xs] => some ⟨.ex (List Int) fun l => .ask (xs = bytesI l ∧ n = l.length)
      (.br (mayM l.length) (.ret (.tup [.s (.loc 1 0), .s (.int .i64 0)]) [.view (bytesI l), .blk 55 [.sl 2 0 l.length l.length], mOwn l])
        (.ret (.tup [.s (.raw (.pointer none)), .s (.int .i64 2)]) [.view (bytesI l)])), fun K h => by
      obtain ⟨l, ⟨e1, e2⟩, h⟩ := h
      subst e1; subst e2
      exact From_c l _ K h⟩
  | _, _ => none)
noncomputable abbrev ctMW : CT := [(f_l03_head, .pure spHead), (f_mem_From, eFromV), (f_mem_Mem_Bytes, eBytes), (f_r03_Same, eSame), (f_mem_Mem_Word, eWord), (f_mem_Mem_SetWord, eSetWord)]
theorem ctMW_ok : CTok Try.prog ctMW := ⟨ceHead, con_ok cal_mem_From _, con_ok cal_mem_Mem_Bytes _, con_ok cal_r03_Same _, con_ok cal_mem_Mem_Word _, con_ok cal_mem_Mem_SetWord _, trivial⟩
theorem inW {i k : Nat} (h : i + 4 ≤ 65536) (h5 : (bif decide ((k : Int) ≥ i) then decide ((k : Int) < IntKind.i64.wrap ((i : Int) + 4)) else false) = true) : i ≤ k ∧ k < i + 4 := by
  rw [wrap64 (by omega) (by omega)] at h5
  by_cases h1 : (k : Int) ≥ i <;> by_cases h2 : (k : Int) < (i : Int) + 4 <;> simp [h1, h2] at h5 <;> omega
theorem outW {i k : Nat} (h : i + 4 ≤ 65536) (h5 : (bif decide ((k : Int) ≥ i) then decide ((k : Int) < IntKind.i64.wrap ((i : Int) + 4)) else false) = false) : ¬ (i ≤ k ∧ k < i + 4) := by
  rw [wrap64 (by omega) (by omega)] at h5
  by_cases h1 : (k : Int) ≥ i <;> by_cases h2 : (k : Int) < (i : Int) + 4 <;> simp [h1, h2] at h5 <;> omega
theorem MemWords_c (l : List Int) (cap : Nat) (a v : Int) (hl : ∀ b ∈ l, 0 ≤ b ∧ b < 256) (ha : I32 a) (hv : I32 v) : Con Try.prog f_l03_MemWords [.s (.sl 0 0 l.length cap), .s (.int .i32 a), .s (.int .i32 v)] [.view (bytesI l)] (.ret (.t (.s (.bool true))) [.view (bytesI l)]) := by
  intro K hK
  refine enter fn_l03_MemWords rfl nt_l03_MemWords rfl rfl (fun φ w0 β0 F => ?_)
  refine c_run tt_ok ctMW_ok k_l03_MemWords [] 60 (by kernel_rfl) ?_
  refine ⟨fun h1 => ⟨trivial, ?_⟩, fun h1 => ⟨l, ⟨rfl, rfl⟩, fun hm => ⟨fun h2 => absurd h2 (by decide), fun _ => ?_⟩, fun hm => ⟨fun _ => ⟨trivial, ?_⟩, fun h2 => absurd h2 (by decide)⟩⟩⟩
  · exact fin_k tt_ok (rs := rs_l03_MemWords) rfl rfl hK [0] rfl rfl rfl rfl rfl rfl
  · obtain ⟨m, em, hm1, hm2⟩ := mayM_nat hm
    have h4 := mayM_mod hm
    refine ⟨l, ⟨rfl, rfl, rfl, rfl, by omega, by omega, ha⟩, fun hs => ?_, fun hs => ?_⟩
    · refine ⟨l, ⟨rfl, rfl, rfl, rfl, by omega, by omega⟩, fun h5 => ?_, fun _ => ⟨fun _ => ?_, fun h5 => absurd h5 (by decide)⟩⟩
      · simp at h5
      · refine ⟨fun _ => ⟨(l, l), ⟨rfl, rfl, rfl, rfl, rfl⟩, ?_⟩, fun h5 => absurd h5 (by decide)⟩
        refine ⟨fun _ => trivial, ?_⟩
        refine fin_k tt_ok (rs := rs_l03_MemWords) rfl rfl hK [0] (t1b ?_) rfl rfl rfl rfl rfl
        rw [show sameB (l, l).1 (l, l).2 = true by simp [sameB]]; simp
    · have hi := spanBad_i (wAt_i32 ha) hs
      have hlen : (setW l (ofAt (wAt a)).toNat v).length = l.length := stW_length (by omega) 4 (by decide)
      refine ⟨setW l (ofAt (wAt a)).toNat v, ⟨rfl, hlen.symm, hlen.symm, hlen.symm, by omega, by omega⟩, ?_⟩
      have eI : IntKind.i64.wrap (IntKind.i64.wrap (bits .andNot .i32 a 3) + 2147483648) = ofAt (wAt a) := by
        rw [andNot3_i32 ha]
        have hw := wAt_i32 ha
        unfold I32 at hw
        show IntKind.i64.wrap (IntKind.i64.wrap (wAt a) + 2147483648) = _
        rw [wrap64 (n := wAt a) (by omega) (by omega), wrap64 (by omega) (by omega)]; rfl
      refine ⟨fun h5 => ?_, fun _ => ⟨fun h5 => absurd h5 (by decide), fun _ => ⟨fun h5 => ?_, fun _ => ?_⟩⟩⟩
      · exfalso; rw [hlen] at h5; simp at h5
      · exfalso; rw [eI, wrap64 (by omega) (by omega)] at h5; simp at h5; omega
      · generalize hI : (ofAt (wAt a)).toNat = i at *
        show WpC _ _ _ _ _
        refine c_loop (α := Nat) (fun k => k ≤ l.length) (fun k => l.length - k)
          (fun k => [(0, .t (.s (.sl 0 0 l.length cap)), none), (1, .t (.s (.int .i32 a)), none), (2, .t (.s (.int .i32 v)), none), (7, .t (.s (.loc 1 0)), none), (10, .t (.s (.sl 3 0 l.length l.length)), none), (11, .t (.s (.int .i64 (i : Int))), none), (12, .t (.s (.int .i64 (k : Int))), none)])
          (fun k => [.view (bytesI l), .blk 55 [.sl 2 0 l.length l.length], .own 5 1 l.length (bytesI (setW l i v)), .own 5 1 l.length (bytesI (setW l i v))]) 0 (Nat.zero_le _) ?_ ?_
        · refine into [0, 1, 2, 3] ⟨⟨_, rfl, rfl⟩, ⟨_, rfl, rfl⟩, ⟨_, rfl, rfl⟩, ⟨_, rfl, rfl⟩, ⟨_, rfl, ?_⟩, ⟨_, rfl, fvi ?_⟩, ⟨_, rfl, rfl⟩, trivial⟩ ⟨_, rfl, ?_⟩ rfl rfl rfl rfl
          · rw [hlen]; rfl
          · rw [eI]; omega
          · rw [hlen]; rfl
        · intro k hk
          refine c_run' tt_ok ctMW_ok k_l03_MemWords [] 60 (by kernel_rfl) (by kernel_rfl) ?_
          refine ⟨fun h3 => ?_, fun h3 => ?_⟩
          · have h3' := of_decide_eq_true h3
            have g1 : (bytesI l)[0 + k * (0 + 1)]? = some (SV.int .u8 (l.getD k 0)).cv := by rw [Nat.zero_add, Nat.zero_add, Nat.mul_one]; exact bytesI_at (by omega)
            have g2 : (bytesI (setW l i v))[0 + k * (0 + 1)]? = some (SV.int .u8 ((setW l i v).getD k 0)).cv := by rw [Nat.zero_add, Nat.zero_add, Nat.mul_one]; exact bytesI_at (by omega)
            have gg : (setW l i v).getD k 0 = if i ≤ k ∧ k < i + 4 then byK v (k - i) else l.getD k 0 := stW_get (by omega) 4 (by decide) k
            have hk5 : i + 4 ≤ 65536 := by omega
            have eSh : i ≤ k → k < i + 4 → IntKind.u8.wrap ((IntKind.u32.wrap v).fdiv (2 ^ min (IntKind.u64.wrap (IntKind.i64.wrap (8 * IntKind.i64.wrap ((k : Int) - i)))).toNat IntKind.u32.bits)) = byK v (k - i) := fun h6 h7 => by
              rw [← byK_prog v (k := k - i) (by omega)]
              congr 4
              rw [wrap64 (n := (k : Int) - i) (by omega) (by omega), wrap64 (by omega) (by omega), wrap64 (by omega) (by omega), IntKind.wrap_u64]
              omega
            refine ⟨k, ⟨rfl, by omega, by simp; omega⟩, .int .u8 (l.getD k 0), rfl, g1, fun h5 => ⟨?_, k, ⟨rfl, by omega, by simp; omega⟩, .int .u8 ((setW l i v).getD k 0), rfl, g2, fun h6 => ?_, fun h6 => ?_⟩, fun h5 => ⟨k, ⟨rfl, by omega, by simp; omega⟩, .int .u8 ((setW l i v).getD k 0), rfl, g2, fun h6 => ?_, fun h6 => ?_⟩⟩
            · show 0 ≤ IntKind.u64.wrap _
              rw [IntKind.wrap_u64]; omega
            · exfalso
              have hr := inW hk5 h5
              have e := eSh hr.1 hr.2
              rw [gg, if_pos hr, e] at h6
              simp at h6
            · exact e_again (k + 1) (show k + 1 ≤ l.length by omega) (show l.length - (k + 1) < l.length - k by omega)
                (into [0, 1, 2, 3] ⟨⟨_, rfl, rfl⟩, ⟨_, rfl, rfl⟩, ⟨_, rfl, rfl⟩, ⟨_, rfl, rfl⟩, ⟨_, rfl, rfl⟩, ⟨_, rfl, rfl⟩, ⟨_, rfl, fvi (wrapSucc (by omega))⟩, trivial⟩ ⟨_, rfl, rfl⟩ rfl rfl rfl rfl)
            · exfalso
              have hr := outW hk5 h5
              rw [gg, if_neg hr] at h6
              simp at h6
            · exact e_again (k + 1) (show k + 1 ≤ l.length by omega) (show l.length - (k + 1) < l.length - k by omega)
                (into [0, 1, 2, 3] ⟨⟨_, rfl, rfl⟩, ⟨_, rfl, rfl⟩, ⟨_, rfl, rfl⟩, ⟨_, rfl, rfl⟩, ⟨_, rfl, rfl⟩, ⟨_, rfl, rfl⟩, ⟨_, rfl, fvi (wrapSucc (by omega))⟩, trivial⟩ ⟨_, rfl, rfl⟩ rfl rfl rfl rfl)
          · refine ⟨setW l i v, ⟨rfl, hlen.symm, hlen.symm, hlen.symm, by omega, by omega, ha, setW_bytes (by omega) hl⟩, fun h7 => ?_, fun h7 => ?_⟩
            · exfalso; rw [hlen, hs] at h7; cases h7
            · refine ⟨fun _ => trivial, ?_⟩
              refine fin_k tt_ok (rs := rs_l03_MemWords) rfl rfl hK [0] (t1b ?_) rfl rfl rfl rfl rfl
              rw [hI, getW_setW (by omega) hv]; simp
  · exact fin_k tt_ok (rs := rs_l03_MemWords) rfl rfl hK [0] rfl rfl rfl rfl rfl rfl
end Go.Proofs

namespace Go.Proofs
open Go Go.Sx
set_option maxRecDepth 10000
theorem Write_o (l b : List Int) (cb : Nat) (at_ : Int) (hn : l.length ≤ 65536) (ha : I32 at_) (h0 : 1 ≤ l.length) (hb : b.length ≤ 4294967296) : Con Try.prog f_mem_Mem_Write [.s (.loc 0 0), .s (.int .i32 at_), .s (.sl 1 0 b.length cb)] [.blk 55 [.sl 2 0 l.length l.length], .own 5 1 cb (bytesI b), mOwn l]
    (.br ((b.length : Int) == 0) (.ret (.t (.s (.int .i64 0))) [.blk 55 [.sl 2 0 l.length l.length], .own 5 1 cb (bytesI b), mOwn l])
      (.br (spanBad l.length at_ b.length) (.ret (.t (.s (.int .i64 4))) [.blk 55 [.sl 2 0 l.length l.length], .own 5 1 cb (bytesI b), mOwn l])
        (.ret (.t (.s (.int .i64 0))) [.blk 55 [.sl 2 0 l.length l.length], .own 5 1 cb (bytesI b), .own 5 1 l.length (bytesI (setL l (ofAt at_).toNat b))]))) := by
  intro K ⟨hK1, hK⟩
  refine enter fn_mem_Mem_Write rfl nt_mem_Mem_Write rfl rfl (fun φ w0 β0 F => ?_)
  refine c_run tt_ok ctR_ok k_mem_Mem_Write [] 60 (by kernel_rfl) ?_
  refine ⟨fun h => ?_, fun _ => ⟨fun h => ?_, fun hk2 => ⟨⟨rfl, rfl, hn, ha, ?_, by omega, h0⟩, fun h => ?_, fun h => ?_⟩⟩⟩
  · simp at h; subst h; simp at h0
  · exact fin_k tt_ok (rs := rs_mem_Mem_Write) rfl rfl (hK1 h) [0, 1, 2] rfl rfl rfl rfl rfl rfl
  · simp at hk2; have : b.length ≠ 0 := fun e => hk2 (List.eq_nil_of_length_eq_zero e); omega
  · exact fin_k tt_ok (rs := rs_mem_Mem_Write) rfl rfl ((hK hk2).1 h) [0, 1, 2] rfl rfl rfl rfl rfl rfl
  · have hi := spanBad_i ha h
    refine ⟨b.length, ⟨by simp, by simp; omega, by simp, by rw [seg_bytesI]; exact bytesI_one _⟩, ?_⟩
    refine fin_k tt_ok (rs := rs_mem_Mem_Write) rfl rfl ((hK hk2).2 h) [0, 1, 2] rfl ?_ rfl rfl rfl rfl
    show pickL [Ch.blk 55 [.sl 2 0 l.length l.length], Ch.own 5 1 cb (bytesI b), Ch.own 5 1 l.length (setV (bytesI l) (ofAt at_).toNat (seg (bytesI b) 0 b.length))] [0, 1, 2] = _
    rw [seg_bytesI, List.drop_zero, List.take_of_length_le (Nat.le_refl _), setV_bytesI]; rfl
end Go.Proofs

namespace Go.Proofs
open Go Go.Sx
set_option maxRecDepth 10000
theorem Write_n (l : List Int) (at_ : Int) (h0 : 1 ≤ l.length) : Con Try.prog f_mem_Mem_Write [.s (.loc 0 0), .s (.int .i32 at_), .s (.raw (.slice none 0 0))] [mBox l.length, mOwn l]
    (.ret (.t (.s (.int .i64 0))) [mBox l.length, mOwn l]) := by
  intro K hK
  refine enter fn_mem_Mem_Write rfl nt_mem_Mem_Write rfl rfl (fun φ w0 β0 F => ?_)
  refine c_run tt_ok ctR_ok k_mem_Mem_Write [] 60 (by kernel_rfl) ?_
  refine ⟨fun h => ?_, fun _ => ⟨fun h => ?_, fun h => absurd h (by decide)⟩⟩
  · simp at h; subst h; simp at h0
  · exact fin_k tt_ok (rs := rs_mem_Mem_Write) rfl rfl hK [0, 1] rfl rfl rfl rfl rfl rfl
noncomputable abbrev eWriteO : Ent := .st (conS (P := Try.prog) (f := f_mem_Mem_Write) fun cargs σ0 => match cargs, σ0 with
  | [.s (.loc 0 0), .s (.int .i32 a), .s (.sl 1 0 k cb)], [.blk 55 [.sl 2 0 n n'], .own 5 1 c' ys, .own 5 1 c xs] => some ⟨.ex (List Int × List Int) fun p => .ask (xs = bytesI p.1 ∧ ys = bytesI p.2 ∧ n = p.1.length ∧ n' = p.1.length ∧ c = p.1.length ∧ k = p.2.length ∧ c' = cb ∧ p.1.length ≤ 65536 ∧ I32 a ∧ 1 ≤ p.1.length ∧ p.2.length ≤ 4294967296)
      (.br ((p.2.length : Int) == 0) (.ret (.t (.s (.int .i64 0))) [.blk 55 [.sl 2 0 p.1.length p.1.length], .own 5 1 cb (bytesI p.2), mOwn p.1])
        (.br (spanBad p.1.length a p.2.length) (.ret (.t (.s (.int .i64 4))) [.blk 55 [.sl 2 0 p.1.length p.1.length], .own 5 1 cb (bytesI p.2), mOwn p.1])
          (.ret (.t (.s (.int .i64 0))) [.blk 55 [.sl 2 0 p.1.length p.1.length], .own 5 1 cb (bytesI p.2), .own 5 1 p.1.length (bytesI (setL p.1 (ofAt a).toNat p.2))]))), fun K h => by
      obtain ⟨⟨l, b⟩, ⟨e1, e2, e3, e4, e5, e6, e7, h1, h2, h3, h4⟩, h⟩ := h
      subst e1; subst e2; subst e3; subst e4; subst e5; subst e6; subst e7
      exact Write_o l b _ a h1 h2 h3 h4 K h⟩
  | [.s (.loc 0 0), .s (.int .i32 a), .s (.raw (.slice none 0 0))], [.blk 55 [.sl 1 0 n n'], .own 5 1 c xs] => some ⟨.ex (List Int) fun l => .ask (xs = bytesI l ∧ n = l.length ∧ n' = l.length ∧ c = l.length ∧ 1 ≤ l.length)
      (.ret (.t (.s (.int .i64 0))) [mBox l.length, mOwn l]), fun K h => by
      obtain ⟨l, ⟨e1, e2, e3, e4, h1⟩, h⟩ := h
      subst e1; subst e2; subst e3; subst e4
      exact Write_n l a h1 K h⟩
  | _, _ => none)
noncomputable abbrev ctMM : CT := [(f_l03_head, .pure spHead), (f_mem_From, eFromV), (f_mem_Mem_Bytes, eBytes), (f_r03_Same, eSame), (f_mem_Mem_Move, eMove), (f_mem_Mem_Read, eRead), (f_mem_Mem_Write, eWriteO)]
theorem ctMM_ok : CTok Try.prog ctMM := ⟨ceHead, con_ok cal_mem_From _, con_ok cal_mem_Mem_Bytes _, con_ok cal_r03_Same _, con_ok cal_mem_Mem_Move _, con_ok cal_mem_Mem_Read _, con_ok cal_mem_Mem_Write _, trivial⟩
theorem MemMoves_c (l : List Int) (cap : Nat) (op to fr k sz : Int) (m cm : Nat) (ys : List Value) (hto : I32 to) (hfr : I32 fr) (hk : I32 k) :
    Con Try.prog f_l03_MemMoves [.s (.sl 0 0 l.length cap), .agg [.int .u8 op, .int .i32 to, .int .i32 fr, .int .i32 k, .int .i64 sz, .sl 1 0 m cm]] [.view (bytesI l), .view ys] (.ret (.t (.s (.bool true))) [.view (bytesI l), .view ys]) := by
  intro K hK
  refine enter fn_l03_MemMoves rfl nt_l03_MemMoves rfl rfl (fun φ w0 β0 F => ?_)
  refine c_run tt_ok ctMM_ok k_l03_MemMoves [] 60 (by kernel_rfl) ?_
  refine ⟨fun h1 => ⟨trivial, ?_⟩, fun h1 => ?_⟩
  · exact fin_k tt_ok (rs := rs_l03_MemMoves) rfl rfl hK [0, 1] rfl rfl rfl rfl rfl rfl
  refine ⟨l, ⟨rfl, rfl⟩, fun hm => ⟨l, ⟨rfl, rfl⟩, fun _ => ?_, fun hm2 => ?_⟩, fun hm => ⟨l, ⟨rfl, rfl⟩, fun hm2 => ?_, fun _ => ?_⟩⟩
  · refine ⟨fun h => absurd h (by decide), fun _ => ?_⟩
    obtain ⟨q, em, hm1, hm2⟩ := mayM_nat hm
    refine ⟨l, ⟨rfl, rfl, rfl, rfl, by omega, by omega, hto, hfr, hk⟩, ?_⟩
    have eU : IntKind.i64.wrap (IntKind.u32.wrap k) = Uw k := by rw [IntKind.wrap_i64, IntKind.wrap_u32]; unfold Uw; omega
    have hU0 := Uw_lo k
    have hU1 := Uw_hi k
    have e0 : (k == 0) = (IntKind.i64.wrap (IntKind.u32.wrap k) == 0) := by
      rw [eU]
      by_cases h : k = 0
      · subst h; rfl
      · have h' : Uw k ≠ 0 := by unfold I32 at hk; unfold Uw; omega
        rw [beq_eq_false_iff_ne.2 h, beq_eq_false_iff_ne.2 h']
    refine ⟨fun h2 => ?_, fun h2 => ⟨fun h3 => ?_, fun h3 => ⟨fun h4 => ?_, fun h4 => ?_⟩⟩⟩
    · refine ⟨l, ⟨rfl, rfl, rfl, rfl, by omega, by omega, hfr, by rw [eU]; omega⟩, fun h5 => ?_, fun h5 => ⟨fun h6 => ?_, fun h6 => ?_⟩⟩
      · exfalso; rw [eU] at h5; have := of_decide_eq_true h5; omega
      · refine ⟨fun _ => ⟨l, ⟨rfl, rfl, rfl, rfl, by omega⟩, ?_⟩, fun h => absurd h (by decide)⟩
        refine ⟨fun _ => ⟨l, ⟨rfl, rfl, rfl, rfl, by omega, by omega⟩, ⟨fun _ => ⟨l, ⟨rfl, rfl, rfl, rfl, by omega, by omega⟩, ⟨fun _ => ⟨(l, l), ⟨rfl, rfl, rfl, rfl, rfl, rfl⟩, ⟨fun _ => trivial, ?_⟩⟩, fun h => absurd h (by decide)⟩⟩, fun h => absurd h (by decide)⟩⟩, fun h => absurd h (by decide)⟩
        refine fin_k tt_ok (rs := rs_l03_MemMoves) rfl rfl hK [0, 1] (t1b ?_) rfl rfl rfl rfl rfl
        rw [show ∀ z : List Int, sameB (z, z).1 (z, z).2 = true from fun z => by simp [sameB]]; simp
      · exfalso; rw [← e0, h2] at h6; cases h6
    · refine ⟨l, ⟨rfl, rfl, rfl, rfl, by omega, by omega, hfr, by rw [eU]; omega⟩, fun h5 => ?_, fun h5 => ⟨fun h6 => ?_, fun h6 => ⟨fun h7 => ?_, fun h7 => ?_⟩⟩⟩
      · exfalso; rw [eU] at h5; have := of_decide_eq_true h5; omega
      · exfalso; rw [← e0, h2] at h6; cases h6
      · refine ⟨fun h => absurd h (by decide), fun _ => ?_⟩
        refine ⟨fun _ => ⟨l, ⟨rfl, rfl, rfl, rfl, by omega, by omega⟩, ⟨fun _ => ⟨l, ⟨rfl, rfl, rfl, rfl, by omega, by omega⟩, ⟨fun _ => ⟨(l, l), ⟨rfl, rfl, rfl, rfl, rfl, rfl⟩, ⟨fun _ => trivial, ?_⟩⟩, fun h => absurd h (by decide)⟩⟩, fun h => absurd h (by decide)⟩⟩, fun h => absurd h (by decide)⟩
        refine fin_k tt_ok (rs := rs_l03_MemMoves) rfl rfl hK [0, 1] (t1b ?_) rfl rfl rfl rfl rfl
        rw [show ∀ z : List Int, sameB (z, z).1 (z, z).2 = true from fun z => by simp [sameB]]; simp
      · exfalso; rw [eU, h3] at h7; cases h7
    · refine ⟨l, ⟨rfl, rfl, rfl, rfl, by omega, by omega, hfr, by rw [eU]; omega⟩, fun h5 => ?_, fun h5 => ⟨fun h6 => ?_, fun h6 => ⟨fun h7 => ?_, fun h7 => ?_⟩⟩⟩
      · exfalso; rw [eU] at h5; have := of_decide_eq_true h5; omega
      · exfalso; rw [← e0, h2] at h6; cases h6
      · exfalso; rw [eU, h3] at h7; cases h7
      · obtain ⟨Q, hQ⟩ : ∃ Q, Q = (l.drop (ofAt fr).toNat).take (IntKind.i64.wrap (IntKind.u32.wrap k)).toNat := ⟨_, rfl⟩
        have hi := spanBad_i hfr h3
        have hU : 1 ≤ Uw k := by have h := h6; rw [eU] at h; have := beq_eq_false_iff_ne.1 h; omega
        have hq : Q.length = (IntKind.i64.wrap (IntKind.u32.wrap k)).toNat := by rw [hQ, eU]; simp; omega
        have hq2 : (Q.length : Int) = Uw k := by rw [hq, eU]; omega
        rw [← hQ]
        refine ⟨fun _ => ⟨(l, Q), ⟨rfl, rfl, rfl, rfl, rfl, hq.symm, hq, (by show l.length ≤ 65536; omega), hto, (by show 1 ≤ l.length; omega), by show Q.length ≤ _; omega⟩, fun h8 => ?_, fun h8 => ⟨fun h9 => ?_, fun h9 => ?_⟩⟩, fun h => absurd h (by decide)⟩
        · exfalso; have := (beq_iff_eq).1 h8; have h : (Q.length : Int) = 0 := this; omega
        · skip
          refine ⟨fun _ => ⟨l, ⟨rfl, rfl, rfl, rfl, by omega, by omega⟩, ⟨fun _ => ⟨l, ⟨rfl, rfl, rfl, rfl, by omega, by omega⟩, ⟨fun _ => ⟨(l, l), ⟨rfl, rfl, rfl, rfl, rfl, rfl⟩, ⟨fun _ => trivial, ?_⟩⟩, fun h => absurd h (by decide)⟩⟩, fun h => absurd h (by decide)⟩⟩, fun h => absurd h (by decide)⟩
          refine fin_k tt_ok (rs := rs_l03_MemMoves) rfl rfl hK [0, 1] (t1b ?_) rfl rfl rfl rfl rfl
          rw [show ∀ z : List Int, sameB (z, z).1 (z, z).2 = true from fun z => by simp [sameB]]; simp
        · exfalso; have h : spanBad l.length to Q.length = false := h9; rw [hq2, h4] at h; cases h
    · refine ⟨l, ⟨rfl, rfl, rfl, rfl, by omega, by omega, hfr, by rw [eU]; omega⟩, fun h5 => ?_, fun h5 => ⟨fun h6 => ?_, fun h6 => ⟨fun h7 => ?_, fun h7 => ?_⟩⟩⟩
      · exfalso; rw [eU] at h5; have := of_decide_eq_true h5; omega
      · exfalso; rw [← e0, h2] at h6; cases h6
      · exfalso; rw [eU, h3] at h7; cases h7
      · obtain ⟨Q, hQ⟩ : ∃ Q, Q = (l.drop (ofAt fr).toNat).take (IntKind.i64.wrap (IntKind.u32.wrap k)).toNat := ⟨_, rfl⟩
        have hi := spanBad_i hfr h3
        have hi2 := spanBad_i hto h4
        have hU : 1 ≤ Uw k := by have h := h6; rw [eU] at h; have := beq_eq_false_iff_ne.1 h; omega
        have hq : Q.length = (IntKind.i64.wrap (IntKind.u32.wrap k)).toNat := by rw [hQ, eU]; simp; omega
        have hq2 : (Q.length : Int) = Uw k := by rw [hq, eU]; omega
        have hQ2 : (l.drop (ofAt fr).toNat).take (Uw k).toNat = Q := by rw [hQ, eU]
        have hX : (setL l (ofAt to).toNat Q).length = l.length := setL_length (by omega)
        rw [← hQ, hQ2]
        refine ⟨fun _ => ⟨(l, Q), ⟨rfl, rfl, rfl, rfl, rfl, hq.symm, hq, (by show l.length ≤ 65536; omega), hto, (by show 1 ≤ l.length; omega), by show Q.length ≤ _; omega⟩, fun h8 => ?_, fun h8 => ⟨fun h9 => ?_, fun h9 => ?_⟩⟩, fun h => absurd h (by decide)⟩
        · exfalso; have := (beq_iff_eq).1 h8; have h : (Q.length : Int) = 0 := this; omega
        · exfalso; have h : spanBad l.length to Q.length = true := h9; rw [hq2, h4] at h; cases h
        · skip
          refine ⟨fun _ => ⟨setL l (ofAt to).toNat Q, ⟨rfl, hX.symm, hX.symm, hX.symm, by omega, by omega⟩, ⟨fun _ => ⟨setL l (ofAt to).toNat Q, ⟨rfl, hX.symm, hX.symm, hX.symm, by omega, by omega⟩, ⟨fun _ => ⟨(setL l (ofAt to).toNat Q, setL l (ofAt to).toNat Q), ⟨rfl, rfl, rfl, rfl, rfl, rfl⟩, ⟨fun _ => trivial, ?_⟩⟩, fun h => absurd h (by decide)⟩⟩, fun h => absurd h (by decide)⟩⟩, fun h => absurd h (by decide)⟩
          refine fin_k tt_ok (rs := rs_l03_MemMoves) rfl rfl hK [0, 1] (t1b ?_) rfl rfl rfl rfl rfl
          rw [show ∀ z : List Int, sameB (z, z).1 (z, z).2 = true from fun z => by simp [sameB]]; simp
  · rw [hm] at hm2; cases hm2
  · rw [hm] at hm2; cases hm2
  · refine ⟨fun _ => ⟨fun _ => trivial, ?_⟩, fun h => absurd h (by decide)⟩
    exact fin_k tt_ok (rs := rs_l03_MemMoves) rfl rfl hK [0, 1] rfl rfl rfl rfl rfl rfl
end Go.Proofs

namespace Go.Proofs
open Go Go.Sx
set_option maxRecDepth 10000
noncomputable abbrev e_none_n : Ent := .st (conS (P := Try.prog) (f := f_mem_Mem_none) fun cargs σ0 => match cargs, σ0 with
  | [.s (.raw (.pointer none))], [] => some ⟨.ret (.t (.s (.bool true))) [], fun K h => none_n  K h⟩
  | _, _ => none)
noncomputable abbrev ct_span_n : CT := [(f_mem_Mem_none, e_none_n)]
theorem ct_span_n_ok : CTok Try.prog ct_span_n := ⟨con_ok cal_mem_Mem_none _, trivial⟩
theorem span_n' (a0 : Int) (a1 : Int) : Con Try.prog f_mem_Mem_span [.s (.raw (.pointer none)), .s (.int .i32 a0), .s (.int .i64 a1)] [] (.ret (.tup [.s (.raw (.slice none 0 0)), .s (.int .i64 1)]) []) := by
  intro K hK
  refine enter fn_mem_Mem_span rfl nt_mem_Mem_span rfl rfl (fun φ w0 β0 F => ?_)
  refine c_run tt_ok ct_span_n_ok k_mem_Mem_span [] 60 (by kernel_rfl) ?_
  all_goals repeat (first | (refine ⟨fun h => absurd h (by decide), fun _ => ?_⟩) | (refine ⟨fun _ => ?_, fun h => absurd h (by decide)⟩))
  exact fin_k tt_ok (rs := rs_mem_Mem_span) rfl rfl hK [] rfl rfl rfl rfl rfl rfl
noncomputable abbrev e_span_n : Ent := .st (conS (P := Try.prog) (f := f_mem_Mem_span) fun cargs σ0 => match cargs, σ0 with
  | [.s (.raw (.pointer none)), .s (.int .i32 a0), .s (.int .i64 a1)], [] => some ⟨.ret (.tup [.s (.raw (.slice none 0 0)), .s (.int .i64 1)]) [], fun K h => span_n' a0 a1 K h⟩
  | _, _ => none)
noncomputable abbrev ct_word_n : CT := [(f_mem_Mem_span, e_span_n)]
theorem ct_word_n_ok : CTok Try.prog ct_word_n := ⟨con_ok cal_mem_Mem_span _, trivial⟩
theorem word_n' (a0 : Int) : Con Try.prog f_mem_Mem_word [.s (.raw (.pointer none)), .s (.int .i32 a0)] [] (.ret (.tup [.s (.raw (.slice none 0 0)), .s (.int .i64 1)]) []) := by
  intro K hK
  refine enter fn_mem_Mem_word rfl nt_mem_Mem_word rfl rfl (fun φ w0 β0 F => ?_)
  refine c_run tt_ok ct_word_n_ok k_mem_Mem_word [] 60 (by kernel_rfl) ?_
  all_goals repeat (first | (refine ⟨fun h => absurd h (by decide), fun _ => ?_⟩) | (refine ⟨fun _ => ?_, fun h => absurd h (by decide)⟩))
  exact fin_k tt_ok (rs := rs_mem_Mem_word) rfl rfl hK [] rfl rfl rfl rfl rfl rfl
noncomputable abbrev e_word_n : Ent := .st (conS (P := Try.prog) (f := f_mem_Mem_word) fun cargs σ0 => match cargs, σ0 with
  | [.s (.raw (.pointer none)), .s (.int .i32 a0)], [] => some ⟨.ret (.tup [.s (.raw (.slice none 0 0)), .s (.int .i64 1)]) [], fun K h => word_n' a0 K h⟩
  | _, _ => none)
noncomputable abbrev ct_Byte_n : CT := [(f_mem_Mem_span, e_span_n)]
theorem ct_Byte_n_ok : CTok Try.prog ct_Byte_n := ⟨con_ok cal_mem_Mem_span _, trivial⟩
theorem Byte_n' (a0 : Int) : Con Try.prog f_mem_Mem_Byte [.s (.raw (.pointer none)), .s (.int .i32 a0)] [] (.ret (.tup [.s (.int .u8 0), .s (.int .i64 1)]) []) := by
  intro K hK
  refine enter fn_mem_Mem_Byte rfl nt_mem_Mem_Byte rfl rfl (fun φ w0 β0 F => ?_)
  refine c_run tt_ok ct_Byte_n_ok k_mem_Mem_Byte [] 60 (by kernel_rfl) ?_
  all_goals repeat (first | (refine ⟨fun h => absurd h (by decide), fun _ => ?_⟩) | (refine ⟨fun _ => ?_, fun h => absurd h (by decide)⟩))
  exact fin_k tt_ok (rs := rs_mem_Mem_Byte) rfl rfl hK [] rfl rfl rfl rfl rfl rfl
noncomputable abbrev e_Byte_n : Ent := .st (conS (P := Try.prog) (f := f_mem_Mem_Byte) fun cargs σ0 => match cargs, σ0 with
  | [.s (.raw (.pointer none)), .s (.int .i32 a0)], [] => some ⟨.ret (.tup [.s (.int .u8 0), .s (.int .i64 1)]) [], fun K h => Byte_n' a0 K h⟩
  | _, _ => none)
noncomputable abbrev ct_Word_n : CT := [(f_mem_Mem_word, e_word_n)]
theorem ct_Word_n_ok : CTok Try.prog ct_Word_n := ⟨con_ok cal_mem_Mem_word _, trivial⟩
theorem Word_n' (a0 : Int) : Con Try.prog f_mem_Mem_Word [.s (.raw (.pointer none)), .s (.int .i32 a0)] [] (.ret (.tup [.s (.int .i32 0), .s (.int .i64 1)]) []) := by
  intro K hK
  refine enter fn_mem_Mem_Word rfl nt_mem_Mem_Word rfl rfl (fun φ w0 β0 F => ?_)
  refine c_run tt_ok ct_Word_n_ok k_mem_Mem_Word [] 60 (by kernel_rfl) ?_
  all_goals repeat (first | (refine ⟨fun h => absurd h (by decide), fun _ => ?_⟩) | (refine ⟨fun _ => ?_, fun h => absurd h (by decide)⟩))
  exact fin_k tt_ok (rs := rs_mem_Mem_Word) rfl rfl hK [] rfl rfl rfl rfl rfl rfl
noncomputable abbrev e_Word_n : Ent := .st (conS (P := Try.prog) (f := f_mem_Mem_Word) fun cargs σ0 => match cargs, σ0 with
  | [.s (.raw (.pointer none)), .s (.int .i32 a0)], [] => some ⟨.ret (.tup [.s (.int .i32 0), .s (.int .i64 1)]) [], fun K h => Word_n' a0 K h⟩
  | _, _ => none)
noncomputable abbrev ct_Read_n : CT := [(f_mem_Mem_none, e_none_n)]
theorem ct_Read_n_ok : CTok Try.prog ct_Read_n := ⟨con_ok cal_mem_Mem_none _, trivial⟩
theorem Read_n' (a0 : Int) (a1 : Int) : Con Try.prog f_mem_Mem_Read [.s (.raw (.pointer none)), .s (.int .i32 a0), .s (.int .i64 a1)] [] (.ret (.tup [.s (.raw (.slice none 0 0)), .s (.int .i64 1)]) []) := by
  intro K hK
  refine enter fn_mem_Mem_Read rfl nt_mem_Mem_Read rfl rfl (fun φ w0 β0 F => ?_)
  refine c_run tt_ok ct_Read_n_ok k_mem_Mem_Read [] 60 (by kernel_rfl) ?_
  all_goals repeat (first | (refine ⟨fun h => absurd h (by decide), fun _ => ?_⟩) | (refine ⟨fun _ => ?_, fun h => absurd h (by decide)⟩))
  exact fin_k tt_ok (rs := rs_mem_Mem_Read) rfl rfl hK [] rfl rfl rfl rfl rfl rfl
noncomputable abbrev e_Read_n : Ent := .st (conS (P := Try.prog) (f := f_mem_Mem_Read) fun cargs σ0 => match cargs, σ0 with
  | [.s (.raw (.pointer none)), .s (.int .i32 a0), .s (.int .i64 a1)], [] => some ⟨.ret (.tup [.s (.raw (.slice none 0 0)), .s (.int .i64 1)]) [], fun K h => Read_n' a0 a1 K h⟩
  | _, _ => none)
noncomputable abbrev ct_SetByte_n : CT := [(f_mem_Mem_span, e_span_n)]
theorem ct_SetByte_n_ok : CTok Try.prog ct_SetByte_n := ⟨con_ok cal_mem_Mem_span _, trivial⟩
theorem SetByte_n' (a0 : Int) (a1 : Int) : Con Try.prog f_mem_Mem_SetByte [.s (.raw (.pointer none)), .s (.int .i32 a0), .s (.int .u8 a1)] [] (.ret (.t (.s (.int .i64 1))) []) := by
  intro K hK
  refine enter fn_mem_Mem_SetByte rfl nt_mem_Mem_SetByte rfl rfl (fun φ w0 β0 F => ?_)
  refine c_run tt_ok ct_SetByte_n_ok k_mem_Mem_SetByte [] 60 (by kernel_rfl) ?_
  all_goals repeat (first | (refine ⟨fun h => absurd h (by decide), fun _ => ?_⟩) | (refine ⟨fun _ => ?_, fun h => absurd h (by decide)⟩))
  exact fin_k tt_ok (rs := rs_mem_Mem_SetByte) rfl rfl hK [] rfl rfl rfl rfl rfl rfl
noncomputable abbrev e_SetByte_n : Ent := .st (conS (P := Try.prog) (f := f_mem_Mem_SetByte) fun cargs σ0 => match cargs, σ0 with
  | [.s (.raw (.pointer none)), .s (.int .i32 a0), .s (.int .u8 a1)], [] => some ⟨.ret (.t (.s (.int .i64 1))) [], fun K h => SetByte_n' a0 a1 K h⟩
  | _, _ => none)
noncomputable abbrev ct_SetWord_n : CT := [(f_mem_Mem_word, e_word_n)]
theorem ct_SetWord_n_ok : CTok Try.prog ct_SetWord_n := ⟨con_ok cal_mem_Mem_word _, trivial⟩
theorem SetWord_n' (a0 : Int) (a1 : Int) : Con Try.prog f_mem_Mem_SetWord [.s (.raw (.pointer none)), .s (.int .i32 a0), .s (.int .i32 a1)] [] (.ret (.t (.s (.int .i64 1))) []) := by
  intro K hK
  refine enter fn_mem_Mem_SetWord rfl nt_mem_Mem_SetWord rfl rfl (fun φ w0 β0 F => ?_)
  refine c_run tt_ok ct_SetWord_n_ok k_mem_Mem_SetWord [] 60 (by kernel_rfl) ?_
  show WpC _ _ _ _ _
  refine c_unroll 0 ?_
  refine c_run' tt_ok ct_SetWord_n_ok k_mem_Mem_SetWord [] 60 (by kernel_rfl) (by kernel_rfl) ?_
  all_goals repeat (first | (refine ⟨fun h => absurd h (by decide), fun _ => ?_⟩) | (refine ⟨fun _ => ?_, fun h => absurd h (by decide)⟩))
  exact fin_k tt_ok (rs := rs_mem_Mem_SetWord) rfl rfl hK [] rfl rfl rfl rfl rfl rfl
noncomputable abbrev e_SetWord_n : Ent := .st (conS (P := Try.prog) (f := f_mem_Mem_SetWord) fun cargs σ0 => match cargs, σ0 with
  | [.s (.raw (.pointer none)), .s (.int .i32 a0), .s (.int .i32 a1)], [] => some ⟨.ret (.t (.s (.int .i64 1))) [], fun K h => SetWord_n' a0 a1 K h⟩
  | _, _ => none)
noncomputable abbrev ct_Write_n : CT := [(f_mem_Mem_none, e_none_n)]
theorem ct_Write_n_ok : CTok Try.prog ct_Write_n := ⟨con_ok cal_mem_Mem_none _, trivial⟩
theorem Write_n' (a0 : Int) (len cap : Nat) (ys : List Value) : Con Try.prog f_mem_Mem_Write [.s (.raw (.pointer none)), .s (.int .i32 a0), .s (.sl 0 0 len cap)] [.view ys] (.ret (.t (.s (.int .i64 1))) [.view ys]) := by
  intro K hK
  refine enter fn_mem_Mem_Write rfl nt_mem_Mem_Write rfl rfl (fun φ w0 β0 F => ?_)
  refine c_run tt_ok ct_Write_n_ok k_mem_Mem_Write [] 60 (by kernel_rfl) ?_
  all_goals repeat (first | (refine ⟨fun h => absurd h (by decide), fun _ => ?_⟩) | (refine ⟨fun _ => ?_, fun h => absurd h (by decide)⟩))
  exact fin_k tt_ok (rs := rs_mem_Mem_Write) rfl rfl hK [0] rfl rfl rfl rfl rfl rfl
noncomputable abbrev e_Write_n : Ent := .st (conS (P := Try.prog) (f := f_mem_Mem_Write) fun cargs σ0 => match cargs, σ0 with
  | [.s (.raw (.pointer none)), .s (.int .i32 a0), .s (.sl 0 0 len cap)], [.view ys] => some ⟨.ret (.t (.s (.int .i64 1))) [.view ys], fun K h => Write_n' a0 len cap ys K h⟩
  | _, _ => none)
noncomputable abbrev ct_Move_n : CT := [(f_mem_Mem_none, e_none_n)]
theorem ct_Move_n_ok : CTok Try.prog ct_Move_n := ⟨con_ok cal_mem_Mem_none _, trivial⟩
theorem Move_n' (a0 : Int) (a1 : Int) (a2 : Int) : Con Try.prog f_mem_Mem_Move [.s (.raw (.pointer none)), .s (.int .i32 a0), .s (.int .i32 a1), .s (.int .i32 a2)] [] (.ret (.t (.s (.int .i64 1))) []) := by
  intro K hK
  refine enter fn_mem_Mem_Move rfl nt_mem_Mem_Move rfl rfl (fun φ w0 β0 F => ?_)
  refine c_run tt_ok ct_Move_n_ok k_mem_Mem_Move [] 60 (by kernel_rfl) ?_
  all_goals repeat (first | (refine ⟨fun h => absurd h (by decide), fun _ => ?_⟩) | (refine ⟨fun _ => ?_, fun h => absurd h (by decide)⟩))
  exact fin_k tt_ok (rs := rs_mem_Mem_Move) rfl rfl hK [] rfl rfl rfl rfl rfl rfl
noncomputable abbrev e_Move_n : Ent := .st (conS (P := Try.prog) (f := f_mem_Mem_Move) fun cargs σ0 => match cargs, σ0 with
  | [.s (.raw (.pointer none)), .s (.int .i32 a0), .s (.int .i32 a1), .s (.int .i32 a2)], [] => some ⟨.ret (.t (.s (.int .i64 1))) [], fun K h => Move_n' a0 a1 a2 K h⟩
  | _, _ => none)
noncomputable abbrev ct_Size_n : CT := []
theorem ct_Size_n_ok : CTok Try.prog ct_Size_n := trivial
theorem Size_n'  : Con Try.prog f_mem_Mem_Size [.s (.raw (.pointer none))] [] (.ret (.t (.s (.int .i64 0))) []) := by
  intro K hK
  refine enter fn_mem_Mem_Size rfl nt_mem_Mem_Size rfl rfl (fun φ w0 β0 F => ?_)
  refine c_run tt_ok ct_Size_n_ok k_mem_Mem_Size [] 60 (by kernel_rfl) ?_
  all_goals repeat (first | (refine ⟨fun h => absurd h (by decide), fun _ => ?_⟩) | (refine ⟨fun _ => ?_, fun h => absurd h (by decide)⟩))
  exact fin_k tt_ok (rs := rs_mem_Mem_Size) rfl rfl hK [] rfl rfl rfl rfl rfl rfl
noncomputable abbrev e_Size_n : Ent := .st (conS (P := Try.prog) (f := f_mem_Mem_Size) fun cargs σ0 => match cargs, σ0 with
  | [.s (.raw (.pointer none))], [] => some ⟨.ret (.t (.s (.int .i64 0))) [], fun K h => Size_n'  K h⟩
  | _, _ => none)
noncomputable abbrev ct_Bytes_n : CT := [(f_mem_Mem_none, e_none_n)]
theorem ct_Bytes_n_ok : CTok Try.prog ct_Bytes_n := ⟨con_ok cal_mem_Mem_none _, trivial⟩
theorem Bytes_n'  : Con Try.prog f_mem_Mem_Bytes [.s (.raw (.pointer none))] [] (.ret (.t (.s (.raw (.slice none 0 0)))) []) := by
  intro K hK
  refine enter fn_mem_Mem_Bytes rfl nt_mem_Mem_Bytes rfl rfl (fun φ w0 β0 F => ?_)
  refine c_run tt_ok ct_Bytes_n_ok k_mem_Mem_Bytes [] 60 (by kernel_rfl) ?_
  all_goals repeat (first | (refine ⟨fun h => absurd h (by decide), fun _ => ?_⟩) | (refine ⟨fun _ => ?_, fun h => absurd h (by decide)⟩))
  exact fin_k tt_ok (rs := rs_mem_Mem_Bytes) rfl rfl hK [] rfl rfl rfl rfl rfl rfl
noncomputable abbrev e_Bytes_n : Ent := .st (conS (P := Try.prog) (f := f_mem_Mem_Bytes) fun cargs σ0 => match cargs, σ0 with
  | [.s (.raw (.pointer none))], [] => some ⟨.ret (.t (.s (.raw (.slice none 0 0)))) [], fun K h => Bytes_n'  K h⟩
  | _, _ => none)
noncomputable abbrev ct_Copy_n : CT := [(f_mem_Mem_none, e_none_n)]
theorem ct_Copy_n_ok : CTok Try.prog ct_Copy_n := ⟨con_ok cal_mem_Mem_none _, trivial⟩
theorem Copy_n'  : Con Try.prog f_mem_Mem_Copy [.s (.raw (.pointer none))] [] (.ret (.t (.s (.raw (.pointer none)))) []) := by
  intro K hK
  refine enter fn_mem_Mem_Copy rfl nt_mem_Mem_Copy rfl rfl (fun φ w0 β0 F => ?_)
  refine c_run tt_ok ct_Copy_n_ok k_mem_Mem_Copy [] 60 (by kernel_rfl) ?_
  all_goals repeat (first | (refine ⟨fun h => absurd h (by decide), fun _ => ?_⟩) | (refine ⟨fun _ => ?_, fun h => absurd h (by decide)⟩))
  exact fin_k tt_ok (rs := rs_mem_Mem_Copy) rfl rfl hK [] rfl rfl rfl rfl rfl rfl
noncomputable abbrev e_Copy_n : Ent := .st (conS (P := Try.prog) (f := f_mem_Mem_Copy) fun cargs σ0 => match cargs, σ0 with
  | [.s (.raw (.pointer none))], [] => some ⟨.ret (.t (.s (.raw (.pointer none)))) [], fun K h => Copy_n'  K h⟩
  | _, _ => none)
noncomputable abbrev ct_none_z : CT := []
theorem ct_none_z_ok : CTok Try.prog ct_none_z := trivial
theorem none_z'  : Con Try.prog f_mem_Mem_none [.s (.loc 0 0)] [.blk 55 [.raw (.slice none 0 0)]] (.ret (.t (.s (.bool true))) [.blk 55 [.raw (.slice none 0 0)]]) := by
  intro K hK
  refine enter fn_mem_Mem_none rfl nt_mem_Mem_none rfl rfl (fun φ w0 β0 F => ?_)
  refine c_run tt_ok ct_none_z_ok k_mem_Mem_none [] 60 (by kernel_rfl) ?_
  all_goals repeat (first | (refine ⟨fun h => absurd h (by decide), fun _ => ?_⟩) | (refine ⟨fun _ => ?_, fun h => absurd h (by decide)⟩))
  exact fin_k tt_ok (rs := rs_mem_Mem_none) rfl rfl hK [0] rfl rfl rfl rfl rfl rfl
noncomputable abbrev e_none_z : Ent := .st (conS (P := Try.prog) (f := f_mem_Mem_none) fun cargs σ0 => match cargs, σ0 with
  | [.s (.loc 0 0)], [.blk 55 [.raw (.slice none 0 0)]] => some ⟨.ret (.t (.s (.bool true))) [.blk 55 [.raw (.slice none 0 0)]], fun K h => none_z'  K h⟩
  | _, _ => none)
noncomputable abbrev ct_span_z : CT := [(f_mem_Mem_none, e_none_z)]
theorem ct_span_z_ok : CTok Try.prog ct_span_z := ⟨con_ok cal_mem_Mem_none _, trivial⟩
theorem span_z' (a0 : Int) (a1 : Int) : Con Try.prog f_mem_Mem_span [.s (.loc 0 0), .s (.int .i32 a0), .s (.int .i64 a1)] [.blk 55 [.raw (.slice none 0 0)]] (.ret (.tup [.s (.raw (.slice none 0 0)), .s (.int .i64 1)]) [.blk 55 [.raw (.slice none 0 0)]]) := by
  intro K hK
  refine enter fn_mem_Mem_span rfl nt_mem_Mem_span rfl rfl (fun φ w0 β0 F => ?_)
  refine c_run tt_ok ct_span_z_ok k_mem_Mem_span [] 60 (by kernel_rfl) ?_
  all_goals repeat (first | (refine ⟨fun h => absurd h (by decide), fun _ => ?_⟩) | (refine ⟨fun _ => ?_, fun h => absurd h (by decide)⟩))
  exact fin_k tt_ok (rs := rs_mem_Mem_span) rfl rfl hK [0] rfl rfl rfl rfl rfl rfl
noncomputable abbrev e_span_z : Ent := .st (conS (P := Try.prog) (f := f_mem_Mem_span) fun cargs σ0 => match cargs, σ0 with
  | [.s (.loc 0 0), .s (.int .i32 a0), .s (.int .i64 a1)], [.blk 55 [.raw (.slice none 0 0)]] => some ⟨.ret (.tup [.s (.raw (.slice none 0 0)), .s (.int .i64 1)]) [.blk 55 [.raw (.slice none 0 0)]], fun K h => span_z' a0 a1 K h⟩
  | _, _ => none)
noncomputable abbrev ct_word_z : CT := [(f_mem_Mem_span, e_span_z)]
theorem ct_word_z_ok : CTok Try.prog ct_word_z := ⟨con_ok cal_mem_Mem_span _, trivial⟩
theorem word_z' (a0 : Int) : Con Try.prog f_mem_Mem_word [.s (.loc 0 0), .s (.int .i32 a0)] [.blk 55 [.raw (.slice none 0 0)]] (.ret (.tup [.s (.raw (.slice none 0 0)), .s (.int .i64 1)]) [.blk 55 [.raw (.slice none 0 0)]]) := by
  intro K hK
  refine enter fn_mem_Mem_word rfl nt_mem_Mem_word rfl rfl (fun φ w0 β0 F => ?_)
  refine c_run tt_ok ct_word_z_ok k_mem_Mem_word [] 60 (by kernel_rfl) ?_
  all_goals repeat (first | (refine ⟨fun h => absurd h (by decide), fun _ => ?_⟩) | (refine ⟨fun _ => ?_, fun h => absurd h (by decide)⟩))
  exact fin_k tt_ok (rs := rs_mem_Mem_word) rfl rfl hK [0] rfl rfl rfl rfl rfl rfl
noncomputable abbrev e_word_z : Ent := .st (conS (P := Try.prog) (f := f_mem_Mem_word) fun cargs σ0 => match cargs, σ0 with
  | [.s (.loc 0 0), .s (.int .i32 a0)], [.blk 55 [.raw (.slice none 0 0)]] => some ⟨.ret (.tup [.s (.raw (.slice none 0 0)), .s (.int .i64 1)]) [.blk 55 [.raw (.slice none 0 0)]], fun K h => word_z' a0 K h⟩
  | _, _ => none)
noncomputable abbrev ct_Byte_z : CT := [(f_mem_Mem_span, e_span_z)]
theorem ct_Byte_z_ok : CTok Try.prog ct_Byte_z := ⟨con_ok cal_mem_Mem_span _, trivial⟩
theorem Byte_z' (a0 : Int) : Con Try.prog f_mem_Mem_Byte [.s (.loc 0 0), .s (.int .i32 a0)] [.blk 55 [.raw (.slice none 0 0)]] (.ret (.tup [.s (.int .u8 0), .s (.int .i64 1)]) [.blk 55 [.raw (.slice none 0 0)]]) := by
  intro K hK
  refine enter fn_mem_Mem_Byte rfl nt_mem_Mem_Byte rfl rfl (fun φ w0 β0 F => ?_)
  refine c_run tt_ok ct_Byte_z_ok k_mem_Mem_Byte [] 60 (by kernel_rfl) ?_
  all_goals repeat (first | (refine ⟨fun h => absurd h (by decide), fun _ => ?_⟩) | (refine ⟨fun _ => ?_, fun h => absurd h (by decide)⟩))
  exact fin_k tt_ok (rs := rs_mem_Mem_Byte) rfl rfl hK [0] rfl rfl rfl rfl rfl rfl
noncomputable abbrev e_Byte_z : Ent := .st (conS (P := Try.prog) (f := f_mem_Mem_Byte) fun cargs σ0 => match cargs, σ0 with
  | [.s (.loc 0 0), .s (.int .i32 a0)], [.blk 55 [.raw (.slice none 0 0)]] => some ⟨.ret (.tup [.s (.int .u8 0), .s (.int .i64 1)]) [.blk 55 [.raw (.slice none 0 0)]], fun K h => Byte_z' a0 K h⟩
  | _, _ => none)
noncomputable abbrev ct_Word_z : CT := [(f_mem_Mem_word, e_word_z)]
theorem ct_Word_z_ok : CTok Try.prog ct_Word_z := ⟨con_ok cal_mem_Mem_word _, trivial⟩
theorem Word_z' (a0 : Int) : Con Try.prog f_mem_Mem_Word [.s (.loc 0 0), .s (.int .i32 a0)] [.blk 55 [.raw (.slice none 0 0)]] (.ret (.tup [.s (.int .i32 0), .s (.int .i64 1)]) [.blk 55 [.raw (.slice none 0 0)]]) := by
  intro K hK
  refine enter fn_mem_Mem_Word rfl nt_mem_Mem_Word rfl rfl (fun φ w0 β0 F => ?_)
  refine c_run tt_ok ct_Word_z_ok k_mem_Mem_Word [] 60 (by kernel_rfl) ?_
  all_goals repeat (first | (refine ⟨fun h => absurd h (by decide), fun _ => ?_⟩) | (refine ⟨fun _ => ?_, fun h => absurd h (by decide)⟩))
  exact fin_k tt_ok (rs := rs_mem_Mem_Word) rfl rfl hK [0] rfl rfl rfl rfl rfl rfl
noncomputable abbrev e_Word_z : Ent := .st (conS (P := Try.prog) (f := f_mem_Mem_Word) fun cargs σ0 => match cargs, σ0 with
  | [.s (.loc 0 0), .s (.int .i32 a0)], [.blk 55 [.raw (.slice none 0 0)]] => some ⟨.ret (.tup [.s (.int .i32 0), .s (.int .i64 1)]) [.blk 55 [.raw (.slice none 0 0)]], fun K h => Word_z' a0 K h⟩
  | _, _ => none)
noncomputable abbrev ct_Read_z : CT := [(f_mem_Mem_none, e_none_z)]
theorem ct_Read_z_ok : CTok Try.prog ct_Read_z := ⟨con_ok cal_mem_Mem_none _, trivial⟩
theorem Read_z' (a0 : Int) (a1 : Int) : Con Try.prog f_mem_Mem_Read [.s (.loc 0 0), .s (.int .i32 a0), .s (.int .i64 a1)] [.blk 55 [.raw (.slice none 0 0)]] (.ret (.tup [.s (.raw (.slice none 0 0)), .s (.int .i64 1)]) [.blk 55 [.raw (.slice none 0 0)]]) := by
  intro K hK
  refine enter fn_mem_Mem_Read rfl nt_mem_Mem_Read rfl rfl (fun φ w0 β0 F => ?_)
  refine c_run tt_ok ct_Read_z_ok k_mem_Mem_Read [] 60 (by kernel_rfl) ?_
  all_goals repeat (first | (refine ⟨fun h => absurd h (by decide), fun _ => ?_⟩) | (refine ⟨fun _ => ?_, fun h => absurd h (by decide)⟩))
  exact fin_k tt_ok (rs := rs_mem_Mem_Read) rfl rfl hK [0] rfl rfl rfl rfl rfl rfl
noncomputable abbrev e_Read_z : Ent := .st (conS (P := Try.prog) (f := f_mem_Mem_Read) fun cargs σ0 => match cargs, σ0 with
  | [.s (.loc 0 0), .s (.int .i32 a0), .s (.int .i64 a1)], [.blk 55 [.raw (.slice none 0 0)]] => some ⟨.ret (.tup [.s (.raw (.slice none 0 0)), .s (.int .i64 1)]) [.blk 55 [.raw (.slice none 0 0)]], fun K h => Read_z' a0 a1 K h⟩
  | _, _ => none)
noncomputable abbrev ct_SetByte_z : CT := [(f_mem_Mem_span, e_span_z)]
theorem ct_SetByte_z_ok : CTok Try.prog ct_SetByte_z := ⟨con_ok cal_mem_Mem_span _, trivial⟩
theorem SetByte_z' (a0 : Int) (a1 : Int) : Con Try.prog f_mem_Mem_SetByte [.s (.loc 0 0), .s (.int .i32 a0), .s (.int .u8 a1)] [.blk 55 [.raw (.slice none 0 0)]] (.ret (.t (.s (.int .i64 1))) [.blk 55 [.raw (.slice none 0 0)]]) := by
  intro K hK
  refine enter fn_mem_Mem_SetByte rfl nt_mem_Mem_SetByte rfl rfl (fun φ w0 β0 F => ?_)
  refine c_run tt_ok ct_SetByte_z_ok k_mem_Mem_SetByte [] 60 (by kernel_rfl) ?_
  all_goals repeat (first | (refine ⟨fun h => absurd h (by decide), fun _ => ?_⟩) | (refine ⟨fun _ => ?_, fun h => absurd h (by decide)⟩))
  exact fin_k tt_ok (rs := rs_mem_Mem_SetByte) rfl rfl hK [0] rfl rfl rfl rfl rfl rfl
noncomputable abbrev e_SetByte_z : Ent := .st (conS (P := Try.prog) (f := f_mem_Mem_SetByte) fun cargs σ0 => match cargs, σ0 with
  | [.s (.loc 0 0), .s (.int .i32 a0), .s (.int .u8 a1)], [.blk 55 [.raw (.slice none 0 0)]] => some ⟨.ret (.t (.s (.int .i64 1))) [.blk 55 [.raw (.slice none 0 0)]], fun K h => SetByte_z' a0 a1 K h⟩
  | _, _ => none)
noncomputable abbrev ct_SetWord_z : CT := [(f_mem_Mem_word, e_word_z)]
theorem ct_SetWord_z_ok : CTok Try.prog ct_SetWord_z := ⟨con_ok cal_mem_Mem_word _, trivial⟩
theorem SetWord_z' (a0 : Int) (a1 : Int) : Con Try.prog f_mem_Mem_SetWord [.s (.loc 0 0), .s (.int .i32 a0), .s (.int .i32 a1)] [.blk 55 [.raw (.slice none 0 0)]] (.ret (.t (.s (.int .i64 1))) [.blk 55 [.raw (.slice none 0 0)]]) := by
  intro K hK
  refine enter fn_mem_Mem_SetWord rfl nt_mem_Mem_SetWord rfl rfl (fun φ w0 β0 F => ?_)
  refine c_run tt_ok ct_SetWord_z_ok k_mem_Mem_SetWord [] 60 (by kernel_rfl) ?_
  show WpC _ _ _ _ _
  refine c_unroll 0 ?_
  refine c_run' tt_ok ct_SetWord_z_ok k_mem_Mem_SetWord [] 60 (by kernel_rfl) (by kernel_rfl) ?_
  all_goals repeat (first | (refine ⟨fun h => absurd h (by decide), fun _ => ?_⟩) | (refine ⟨fun _ => ?_, fun h => absurd h (by decide)⟩))
  exact fin_k tt_ok (rs := rs_mem_Mem_SetWord) rfl rfl hK [0] rfl rfl rfl rfl rfl rfl
noncomputable abbrev e_SetWord_z : Ent := .st (conS (P := Try.prog) (f := f_mem_Mem_SetWord) fun cargs σ0 => match cargs, σ0 with
  | [.s (.loc 0 0), .s (.int .i32 a0), .s (.int .i32 a1)], [.blk 55 [.raw (.slice none 0 0)]] => some ⟨.ret (.t (.s (.int .i64 1))) [.blk 55 [.raw (.slice none 0 0)]], fun K h => SetWord_z' a0 a1 K h⟩
  | _, _ => none)
noncomputable abbrev ct_Write_z : CT := [(f_mem_Mem_none, e_none_z)]
theorem ct_Write_z_ok : CTok Try.prog ct_Write_z := ⟨con_ok cal_mem_Mem_none _, trivial⟩
theorem Write_z' (a0 : Int) (len cap : Nat) (ys : List Value) : Con Try.prog f_mem_Mem_Write [.s (.loc 0 0), .s (.int .i32 a0), .s (.sl 1 0 len cap)] [.blk 55 [.raw (.slice none 0 0)], .view ys] (.ret (.t (.s (.int .i64 1))) [.blk 55 [.raw (.slice none 0 0)], .view ys]) := by
  intro K hK
  refine enter fn_mem_Mem_Write rfl nt_mem_Mem_Write rfl rfl (fun φ w0 β0 F => ?_)
  refine c_run tt_ok ct_Write_z_ok k_mem_Mem_Write [] 60 (by kernel_rfl) ?_
  all_goals repeat (first | (refine ⟨fun h => absurd h (by decide), fun _ => ?_⟩) | (refine ⟨fun _ => ?_, fun h => absurd h (by decide)⟩))
  exact fin_k tt_ok (rs := rs_mem_Mem_Write) rfl rfl hK [0, 1] rfl rfl rfl rfl rfl rfl
noncomputable abbrev e_Write_z : Ent := .st (conS (P := Try.prog) (f := f_mem_Mem_Write) fun cargs σ0 => match cargs, σ0 with
  | [.s (.loc 0 0), .s (.int .i32 a0), .s (.sl 1 0 len cap)], [.blk 55 [.raw (.slice none 0 0)], .view ys] => some ⟨.ret (.t (.s (.int .i64 1))) [.blk 55 [.raw (.slice none 0 0)], .view ys], fun K h => Write_z' a0 len cap ys K h⟩
  | _, _ => none)
noncomputable abbrev ct_Move_z : CT := [(f_mem_Mem_none, e_none_z)]
theorem ct_Move_z_ok : CTok Try.prog ct_Move_z := ⟨con_ok cal_mem_Mem_none _, trivial⟩
theorem Move_z' (a0 : Int) (a1 : Int) (a2 : Int) : Con Try.prog f_mem_Mem_Move [.s (.loc 0 0), .s (.int .i32 a0), .s (.int .i32 a1), .s (.int .i32 a2)] [.blk 55 [.raw (.slice none 0 0)]] (.ret (.t (.s (.int .i64 1))) [.blk 55 [.raw (.slice none 0 0)]]) := by
  intro K hK
  refine enter fn_mem_Mem_Move rfl nt_mem_Mem_Move rfl rfl (fun φ w0 β0 F => ?_)
  refine c_run tt_ok ct_Move_z_ok k_mem_Mem_Move [] 60 (by kernel_rfl) ?_
  all_goals repeat (first | (refine ⟨fun h => absurd h (by decide), fun _ => ?_⟩) | (refine ⟨fun _ => ?_, fun h => absurd h (by decide)⟩))
  exact fin_k tt_ok (rs := rs_mem_Mem_Move) rfl rfl hK [0] rfl rfl rfl rfl rfl rfl
noncomputable abbrev e_Move_z : Ent := .st (conS (P := Try.prog) (f := f_mem_Mem_Move) fun cargs σ0 => match cargs, σ0 with
  | [.s (.loc 0 0), .s (.int .i32 a0), .s (.int .i32 a1), .s (.int .i32 a2)], [.blk 55 [.raw (.slice none 0 0)]] => some ⟨.ret (.t (.s (.int .i64 1))) [.blk 55 [.raw (.slice none 0 0)]], fun K h => Move_z' a0 a1 a2 K h⟩
  | _, _ => none)
noncomputable abbrev ct_Size_z : CT := []
theorem ct_Size_z_ok : CTok Try.prog ct_Size_z := trivial
theorem Size_z'  : Con Try.prog f_mem_Mem_Size [.s (.loc 0 0)] [.blk 55 [.raw (.slice none 0 0)]] (.ret (.t (.s (.int .i64 0))) [.blk 55 [.raw (.slice none 0 0)]]) := by
  intro K hK
  refine enter fn_mem_Mem_Size rfl nt_mem_Mem_Size rfl rfl (fun φ w0 β0 F => ?_)
  refine c_run tt_ok ct_Size_z_ok k_mem_Mem_Size [] 60 (by kernel_rfl) ?_
  all_goals repeat (first | (refine ⟨fun h => absurd h (by decide), fun _ => ?_⟩) | (refine ⟨fun _ => ?_, fun h => absurd h (by decide)⟩))
  exact fin_k tt_ok (rs := rs_mem_Mem_Size) rfl rfl hK [0] rfl rfl rfl rfl rfl rfl
noncomputable abbrev e_Size_z : Ent := .st (conS (P := Try.prog) (f := f_mem_Mem_Size) fun cargs σ0 => match cargs, σ0 with
  | [.s (.loc 0 0)], [.blk 55 [.raw (.slice none 0 0)]] => some ⟨.ret (.t (.s (.int .i64 0))) [.blk 55 [.raw (.slice none 0 0)]], fun K h => Size_z'  K h⟩
  | _, _ => none)
noncomputable abbrev ct_Bytes_z : CT := [(f_mem_Mem_none, e_none_z)]
theorem ct_Bytes_z_ok : CTok Try.prog ct_Bytes_z := ⟨con_ok cal_mem_Mem_none _, trivial⟩
theorem Bytes_z'  : Con Try.prog f_mem_Mem_Bytes [.s (.loc 0 0)] [.blk 55 [.raw (.slice none 0 0)]] (.ret (.t (.s (.raw (.slice none 0 0)))) [.blk 55 [.raw (.slice none 0 0)]]) := by
  intro K hK
  refine enter fn_mem_Mem_Bytes rfl nt_mem_Mem_Bytes rfl rfl (fun φ w0 β0 F => ?_)
  refine c_run tt_ok ct_Bytes_z_ok k_mem_Mem_Bytes [] 60 (by kernel_rfl) ?_
  all_goals repeat (first | (refine ⟨fun h => absurd h (by decide), fun _ => ?_⟩) | (refine ⟨fun _ => ?_, fun h => absurd h (by decide)⟩))
  exact fin_k tt_ok (rs := rs_mem_Mem_Bytes) rfl rfl hK [0] rfl rfl rfl rfl rfl rfl
noncomputable abbrev e_Bytes_z : Ent := .st (conS (P := Try.prog) (f := f_mem_Mem_Bytes) fun cargs σ0 => match cargs, σ0 with
  | [.s (.loc 0 0)], [.blk 55 [.raw (.slice none 0 0)]] => some ⟨.ret (.t (.s (.raw (.slice none 0 0)))) [.blk 55 [.raw (.slice none 0 0)]], fun K h => Bytes_z'  K h⟩
  | _, _ => none)
noncomputable abbrev ct_Copy_z : CT := [(f_mem_Mem_none, e_none_z)]
theorem ct_Copy_z_ok : CTok Try.prog ct_Copy_z := ⟨con_ok cal_mem_Mem_none _, trivial⟩
theorem Copy_z'  : Con Try.prog f_mem_Mem_Copy [.s (.loc 0 0)] [.blk 55 [.raw (.slice none 0 0)]] (.ret (.t (.s (.raw (.pointer none)))) [.blk 55 [.raw (.slice none 0 0)]]) := by
  intro K hK
  refine enter fn_mem_Mem_Copy rfl nt_mem_Mem_Copy rfl rfl (fun φ w0 β0 F => ?_)
  refine c_run tt_ok ct_Copy_z_ok k_mem_Mem_Copy [] 60 (by kernel_rfl) ?_
  all_goals repeat (first | (refine ⟨fun h => absurd h (by decide), fun _ => ?_⟩) | (refine ⟨fun _ => ?_, fun h => absurd h (by decide)⟩))
  exact fin_k tt_ok (rs := rs_mem_Mem_Copy) rfl rfl hK [0] rfl rfl rfl rfl rfl rfl
noncomputable abbrev e_Copy_z : Ent := .st (conS (P := Try.prog) (f := f_mem_Mem_Copy) fun cargs σ0 => match cargs, σ0 with
  | [.s (.loc 0 0)], [.blk 55 [.raw (.slice none 0 0)]] => some ⟨.ret (.t (.s (.raw (.pointer none)))) [.blk 55 [.raw (.slice none 0 0)]], fun K h => Copy_z'  K h⟩
  | _, _ => none)
end Go.Proofs

namespace Go.Proofs
open Go Go.Sx
set_option maxRecDepth 10000
noncomputable abbrev ctNo_n : CT := [(f_mem_Mem_Byte, e_Byte_n), (f_mem_Mem_Word, e_Word_n), (f_mem_Mem_Read, e_Read_n), (f_mem_Mem_SetByte, e_SetByte_n), (f_mem_Mem_SetWord, e_SetWord_n), (f_mem_Mem_Write, e_Write_n), (f_mem_Mem_Move, e_Move_n), (f_mem_Mem_Size, e_Size_n), (f_mem_Mem_Bytes, e_Bytes_n), (f_mem_Mem_Copy, e_Copy_n)]
theorem ctNo_n_ok : CTok Try.prog ctNo_n := ⟨con_ok cal_mem_Mem_Byte _, con_ok cal_mem_Mem_Word _, con_ok cal_mem_Mem_Read _, con_ok cal_mem_Mem_SetByte _, con_ok cal_mem_Mem_SetWord _, con_ok cal_mem_Mem_Write _, con_ok cal_mem_Mem_Move _, con_ok cal_mem_Mem_Size _, con_ok cal_mem_Mem_Bytes _, con_ok cal_mem_Mem_Copy _, trivial⟩
set_option maxHeartbeats 4000000 in
theorem lnone_n (op at_ to k sz : Int) (m cm : Nat) (ys : List Value) : Con Try.prog f_l03_none [.s (.raw (.pointer none)), .agg [.int .u8 op, .int .i32 at_, .int .i32 to, .int .i32 k, .int .i64 sz, .sl 0 0 m cm]] [.view ys] (.ret (.t (.s (.bool true))) [.view ys]) := by
  intro K hK
  refine enter fn_l03_none rfl nt_l03_none rfl rfl (fun φ w0 β0 F => ?_)
  refine c_run tt_ok ctNo_n_ok k_l03_none [] 60 (by kernel_rfl) ?_
  repeat (refine ⟨fun _ => ?_, fun h => absurd h (by decide)⟩)
  exact fin_k tt_ok (rs := rs_l03_none) rfl rfl hK [0] rfl rfl rfl rfl rfl rfl
noncomputable abbrev e_lnone_n : Ent := .st (conS (P := Try.prog) (f := f_l03_none) fun cargs σ0 => match cargs, σ0 with
  | [.s (.raw (.pointer none)), .agg [.int .u8 op, .int .i32 at_, .int .i32 to, .int .i32 k, .int .i64 sz, .sl 0 0 m cm]], [.view ys] => some ⟨.ret (.t (.s (.bool true))) [.view ys], fun K h => lnone_n op at_ to k sz m cm ys K h⟩
  | _, _ => none)
noncomputable abbrev ctNo_z : CT := [(f_mem_Mem_Byte, e_Byte_z), (f_mem_Mem_Word, e_Word_z), (f_mem_Mem_Read, e_Read_z), (f_mem_Mem_SetByte, e_SetByte_z), (f_mem_Mem_SetWord, e_SetWord_z), (f_mem_Mem_Write, e_Write_z), (f_mem_Mem_Move, e_Move_z), (f_mem_Mem_Size, e_Size_z), (f_mem_Mem_Bytes, e_Bytes_z), (f_mem_Mem_Copy, e_Copy_z)]
theorem ctNo_z_ok : CTok Try.prog ctNo_z := ⟨con_ok cal_mem_Mem_Byte _, con_ok cal_mem_Mem_Word _, con_ok cal_mem_Mem_Read _, con_ok cal_mem_Mem_SetByte _, con_ok cal_mem_Mem_SetWord _, con_ok cal_mem_Mem_Write _, con_ok cal_mem_Mem_Move _, con_ok cal_mem_Mem_Size _, con_ok cal_mem_Mem_Bytes _, con_ok cal_mem_Mem_Copy _, trivial⟩
set_option maxHeartbeats 4000000 in
theorem lnone_z (op at_ to k sz : Int) (m cm : Nat) (ys : List Value) : Con Try.prog f_l03_none [.s (.loc 0 0), .agg [.int .u8 op, .int .i32 at_, .int .i32 to, .int .i32 k, .int .i64 sz, .sl 1 0 m cm]] [.blk 55 [.raw (.slice none 0 0)], .view ys] (.ret (.t (.s (.bool true))) [.blk 55 [.raw (.slice none 0 0)], .view ys]) := by
  intro K hK
  refine enter fn_l03_none rfl nt_l03_none rfl rfl (fun φ w0 β0 F => ?_)
  refine c_run tt_ok ctNo_z_ok k_l03_none [] 60 (by kernel_rfl) ?_
  repeat (refine ⟨fun _ => ?_, fun h => absurd h (by decide)⟩)
  exact fin_k tt_ok (rs := rs_l03_none) rfl rfl hK [0, 1] rfl rfl rfl rfl rfl rfl
noncomputable abbrev e_lnone_z : Ent := .st (conS (P := Try.prog) (f := f_l03_none) fun cargs σ0 => match cargs, σ0 with
  | [.s (.loc 0 0), .agg [.int .u8 op, .int .i32 at_, .int .i32 to, .int .i32 k, .int .i64 sz, .sl 1 0 m cm]], [.blk 55 [.raw (.slice none 0 0)], .view ys] => some ⟨.ret (.t (.s (.bool true))) [.blk 55 [.raw (.slice none 0 0)], .view ys], fun K h => lnone_z op at_ to k sz m cm ys K h⟩
  | _, _ => none)

end Go.Proofs

namespace Go.Proofs
open Go Go.Sx
set_option maxRecDepth 10000
noncomputable abbrev eLnone : Ent := .st (conS (P := Try.prog) (f := f_l03_none) fun cargs σ0 => match cargs, σ0 with
  | [.s (.raw (.pointer none)), .agg [.int .u8 op, .int .i32 at_, .int .i32 to, .int .i32 k, .int .i64 sz, .sl 0 0 m cm]], [.view ys] => some ⟨.ret (.t (.s (.bool true))) [.view ys], fun K h => lnone_n op at_ to k sz m cm ys K h⟩
  | [.s (.loc 0 0), .agg [.int .u8 op, .int .i32 at_, .int .i32 to, .int .i32 k, .int .i64 sz, .sl 1 0 m cm]], [.blk 55 [.raw (.slice none 0 0)], .view ys] => some ⟨.ret (.t (.s (.bool true))) [.blk 55 [.raw (.slice none 0 0)], .view ys], fun K h => lnone_z op at_ to k sz m cm ys K h⟩
  | _, _ => none)
noncomputable abbrev ctMN : CT := [(f_l03_head, .pure spHead), (f_l03_none, eLnone)]
theorem ctMN_ok : CTok Try.prog ctMN := ⟨ceHead, con_ok cal_l03_none _, trivial⟩
theorem MemNone_c (op at_ to k sz : Int) (m cm : Nat) (ys : List Value) :
    Con Try.prog f_l03_MemNone [.agg [.int .u8 op, .int .i32 at_, .int .i32 to, .int .i32 k, .int .i64 sz, .sl 0 0 m cm]] [.view ys] (.ret (.t (.s (.bool true))) [.view ys]) := by
  intro K hK
  refine enter fn_l03_MemNone rfl nt_l03_MemNone rfl rfl (fun φ w0 β0 F => ?_)
  refine c_run tt_ok ctMN_ok k_l03_MemNone [] 60 (by kernel_rfl) ?_
  refine ⟨fun h1 => ⟨trivial, ?_⟩, fun h1 => ?_⟩
  · exact fin_k tt_ok (rs := rs_l03_MemNone) rfl rfl hK [0] rfl rfl rfl rfl rfl rfl
  · refine ⟨fun _ => ?_, fun h => absurd h (by decide)⟩
    refine ⟨fun _ => trivial, ?_⟩
    exact fin_k tt_ok (rs := rs_l03_MemNone) rfl rfl hK [0] rfl rfl rfl rfl rfl rfl
end Go.Proofs
