/- The walk of layer 2 (long): each function once. -/
import Derived.Test.YtoinoeamegoioaaSpec
import Derived.Test.YtoinoeamegoioaaTt

namespace Go.Proofs
open Go Go.Sx
set_option maxRecDepth 10000

noncomputable abbrev ctA : CT := [(f_math_bits_Add32, in_math_bits_Add32 []), (f_math_bits_Sub32, in_math_bits_Sub32 []), (f_long_signed, in_long_signed []), (f_long_split, in_long_split [])]
theorem ctA_ok : CTok Try.prog ctA := ⟨in_math_bits_Add32_ok trivial, in_math_bits_Sub32_ok trivial, in_long_signed_ok trivial, in_long_split_ok trivial, trivial⟩

theorem Sum_c (a b c : Int) : Con Try.prog f_long_Sum [.s (.int .i32 a), .s (.int .i32 b), .s (.int .i32 c)] [] (.ret (.tup [.s (.int .i32 (lgSum a b c)), .s (.int .i32 (lgSumC a b c))]) []) := by
  intro K hK
  refine enter fn_long_Sum rfl nt_long_Sum rfl rfl (fun φ w0 β0 F => ?_)
  refine c_run tt_ok ctA_ok k_long_Sum [] 60 (by kernel_rfl) ?_
  refine fin_k tt_ok (rs := rs_long_Sum) rfl rfl hK [] (t2 ?_ ?_) rfl rfl rfl rfl rfl
  · simp only [and1_i32, IntKind.wrap_u32, IntKind.wrap_u64, IntKind.wrap_i32, lgSum, Wd]; omega
  · simp only [and1_i32, fdiv32u, IntKind.wrap_u32, IntKind.wrap_u64, IntKind.wrap_i32, lgSumC, Uw]; omega

theorem Diff_c (a b c : Int) : Con Try.prog f_long_Diff [.s (.int .i32 a), .s (.int .i32 b), .s (.int .i32 c)] [] (.ret (.tup [.s (.int .i32 (lgDiff a b c)), .s (.int .i32 (lgDiffC a b c))]) []) := by
  intro K hK
  refine enter fn_long_Diff rfl nt_long_Diff rfl rfl (fun φ w0 β0 F => ?_)
  refine c_run tt_ok ctA_ok k_long_Diff [] 60 (by kernel_rfl) ?_
  refine fin_k tt_ok (rs := rs_long_Diff) rfl rfl hK [] (t2 ?_ ?_) rfl rfl rfl rfl rfl
  · simp only [and1_i32, IntKind.wrap_u32, IntKind.wrap_u64, IntKind.wrap_i32, lgDiff, Wd]; omega
  · rw [fdiv31u, borrow32 _ _ (c % 2)]
    · simp only [IntKind.wrap_u32, IntKind.wrap_i32, lgDiffC, Uw]; omega
    · rw [IntKind.wrap_u32]; omega
    · rw [IntKind.wrap_u32]; omega
    · rw [IntKind.wrap_u32]; omega
    · rw [IntKind.wrap_u32]; omega
    · omega
    · simp only [and1_i32, IntKind.wrap_u32]; omega

theorem Mul_c (a b c : Int) : Con Try.prog f_long_Mul [.s (.int .i32 a), .s (.int .i32 b), .s (.int .i32 c)] [] (.ret (.tup [.s (.int .i32 (lgMul a b c)), .s (.int .i32 (lgMulH a b c))]) []) := by
  intro K hK
  refine enter fn_long_Mul rfl nt_long_Mul rfl rfl (fun φ w0 β0 F => ?_)
  refine c_run tt_ok ctA_ok k_long_Mul [] 60 (by kernel_rfl) ?_
  have h := mul_U a b
  have hc : 0 ≤ Uw c ∧ Uw c < 4294967296 := ⟨Uw_lo c, Uw_hi c⟩
  have e : ∀ x : Int, IntKind.u64.wrap (IntKind.u32.wrap x) = Uw x := fun x => by rw [IntKind.wrap_u32, IntKind.wrap_u64]; unfold Uw; omega
  refine fin_k tt_ok (rs := rs_long_Mul) rfl rfl hK [] (t2 ?_ ?_) rfl rfl rfl rfl rfl
  · simp only [e, lgMul]
    generalize Uw a * Uw b = p at *
    simp only [IntKind.wrap_u32, IntKind.wrap_u64, IntKind.wrap_i32, Wd]; omega
  · simp only [e, lgMulH, fdiv32u]
    generalize Uw a * Uw b = p at *
    simp only [IntKind.wrap_u32, IntKind.wrap_u64, IntKind.wrap_i32, Wd]; omega

theorem Add_c (a b c : Int) : Con Try.prog f_long_Add [.s (.int .i32 a), .s (.int .i32 b), .s (.int .i32 c)] [] (.ask (I32 a ∧ I32 b) (.ret (.tup [.s (.int .i32 (lgAdd a b c)), .s (.bool (lgAddO a b c))]) [])) := by
  intro K ⟨⟨ha, hb⟩, hK⟩
  refine enter fn_long_Add rfl nt_long_Add rfl rfl (fun φ w0 β0 F => ?_)
  refine c_run tt_ok ctA_ok k_long_Add [] 60 (by kernel_rfl) ?_
  unfold I32 at ha hb
  have e : IntKind.i64.wrap (IntKind.i64.wrap (IntKind.i64.wrap a + IntKind.i64.wrap b) + IntKind.i64.wrap (bits BinOp.and IntKind.i32 c 1)) = a + b + c % 2 := by
    simp only [and1_i32, IntKind.wrap_i64]; omega
  refine fin_k tt_ok (rs := rs_long_Add) rfl rfl hK [] (t2b ?_ ?_) rfl rfl rfl rfl rfl
  · rw [e, wrapW]; rfl
  · rw [e, wrapW, wrap64c (Wd_i32 _)]; rfl

theorem Sub_c (a b c : Int) : Con Try.prog f_long_Sub [.s (.int .i32 a), .s (.int .i32 b), .s (.int .i32 c)] [] (.ask (I32 a ∧ I32 b) (.ret (.tup [.s (.int .i32 (lgSub a b c)), .s (.bool (lgSubO a b c))]) [])) := by
  intro K ⟨⟨ha, hb⟩, hK⟩
  refine enter fn_long_Sub rfl nt_long_Sub rfl rfl (fun φ w0 β0 F => ?_)
  refine c_run tt_ok ctA_ok k_long_Sub [] 60 (by kernel_rfl) ?_
  unfold I32 at ha hb
  have e : IntKind.i64.wrap (IntKind.i64.wrap (IntKind.i64.wrap a - IntKind.i64.wrap b) - IntKind.i64.wrap (bits BinOp.and IntKind.i32 c 1)) = a - b - c % 2 := by
    simp only [and1_i32, IntKind.wrap_i64]; omega
  refine fin_k tt_ok (rs := rs_long_Sub) rfl rfl hK [] (t2b ?_ ?_) rfl rfl rfl rfl rfl
  · rw [e, wrapW]; rfl
  · rw [e, wrapW, wrap64c (Wd_i32 _)]; rfl

theorem Xdble_c (v : Int) : Con Try.prog f_long_Xdble [.s (.int .i32 v)] [] (.ask (I32 v) (.ret (.tup [.s (.int .i32 v), .s (.int .i32 (lgSign v))]) [])) := by
  intro K ⟨hv, hK⟩
  refine enter fn_long_Xdble rfl nt_long_Xdble rfl rfl (fun φ w0 β0 F => ?_)
  refine c_run tt_ok ctA_ok k_long_Xdble [] 60 (by kernel_rfl) ?_
  refine fin_k tt_ok (rs := rs_long_Xdble) rfl rfl hK [] (t2 rfl ?_) rfl rfl rfl rfl rfl
  have e : v.fdiv (2 ^ min 31 IntKind.i32.bits) = v / 2147483648 := Int.fdiv_eq_ediv_of_nonneg _ (by decide)
  unfold I32 at hv
  rw [e]; unfold lgSign; split <;> omega

theorem Div32_c (hi lo d : Int) (h0 : 0 ≤ hi) (h1 : hi < d) (h2 : d < 4294967296) (h3 : 0 ≤ lo) (h4 : lo < 4294967296) :
    Con Try.prog f_math_bits_Div32 [.s (.int .u32 hi), .s (.int .u32 lo), .s (.int .u32 d)] [] (.ret (.tup [.s (.int .u32 ((hi * 4294967296 + lo) / d)), .s (.int .u32 ((hi * 4294967296 + lo) % d))]) []) := by
  intro K hK
  refine enter fn_math_bits_Div32 rfl nt_math_bits_Div32 rfl rfl (fun φ w0 β0 F => ?_)
  refine c_run tt_ok ctA_ok k_math_bits_Div32 [] 60 (by kernel_rfl) ?_
  have e : IntKind.u64.wrap d = d := by simp only [IntKind.wrap_u64]; omega
  have ez : bits .or .u64 (IntKind.u64.wrap (IntKind.u64.wrap hi * 2 ^ min 32 IntKind.u64.bits)) (IntKind.u64.wrap lo) = hi * 4294967296 + lo := by
    have e1 : IntKind.u64.wrap (IntKind.u64.wrap hi * 2 ^ min 32 IntKind.u64.bits) = hi * 4294967296 := by
      show IntKind.u64.wrap (IntKind.u64.wrap hi * 4294967296) = _
      simp only [IntKind.wrap_u64]; omega
    have e2 : IntKind.u64.wrap lo = lo := by simp only [IntKind.wrap_u64]; omega
    rw [e1, e2, or64 h0 (by omega) h3 h4]
  have hq : 0 ≤ (hi * 4294967296 + lo) / d := Int.ediv_nonneg (by omega) (by omega)
  have hq' : (hi * 4294967296 + lo) / d < 4294967296 := by
    rw [Int.ediv_lt_iff_lt_mul (by omega)]
    have := Int.mul_le_mul_of_nonneg_right (show hi + 1 ≤ d by omega) (show (0 : Int) ≤ 4294967296 by decide)
    omega
  have hr := Int.emod_nonneg (hi * 4294967296 + lo) (show d ≠ 0 by omega)
  have hr' := Int.emod_lt_of_pos (hi * 4294967296 + lo) (show 0 < d by omega)
  have hz : 0 ≤ hi * 4294967296 + lo := by omega
  refine ⟨fun h => ?_, fun h => ?_⟩
  · exfalso
    have h1' : ¬ d ≤ hi := by omega
    simp [h1'] at h
  · refine ⟨by show IntKind.u64.wrap d ≠ 0; rw [e]; omega, by show IntKind.u64.wrap d ≠ 0; rw [e]; omega, ?_⟩
    refine fin_k tt_ok (rs := rs_math_bits_Div32) rfl rfl hK [] (t2 ?_ ?_) rfl rfl rfl rfl rfl
    · rw [e, ez, Int.tdiv_eq_ediv_of_nonneg hz]
      simp only [IntKind.wrap_u64, IntKind.wrap_u32]; omega
    · rw [e, ez, Int.tmod_eq_emod_of_nonneg hz]
      simp only [IntKind.wrap_u32]; omega

noncomputable abbrev ctB : CT := [(f_math_bits_Div32, .st (conS (P := Try.prog) (f := f_math_bits_Div32) fun cargs σ0 => match cargs, σ0 with
  | [.s (.int .u32 hi), .s (.int .u32 lo), .s (.int .u32 d)], [] => some ⟨.ask (0 ≤ hi ∧ hi < d ∧ d < 4294967296 ∧ 0 ≤ lo ∧ lo < 4294967296) (.ret (.tup [.s (.int .u32 ((hi * 4294967296 + lo) / d)), .s (.int .u32 ((hi * 4294967296 + lo) % d))]) []),
      fun K h => Div32_c hi lo d h.1.1 h.1.2.1 h.1.2.2.1 h.1.2.2.2.1 h.1.2.2.2.2 K h.2⟩
  | _, _ => none))]
theorem ctB_ok : CTok Try.prog ctB := ⟨con_ok cal_math_bits_Div32 _, trivial⟩

theorem Div_c (hi lo d : Int) : Con Try.prog f_long_Div [.s (.int .i32 hi), .s (.int .i32 lo), .s (.int .i32 d)] []
    (.br (lgDivO hi d) (.ret (.tup [.s (.int .i32 0), .s (.int .i32 0), .s (.bool true)]) []) (.ret (.tup [.s (.int .i32 (lgDiv hi lo d)), .s (.int .i32 (lgRem hi lo d)), .s (.bool false)]) [])) := by
  intro K ⟨hK1, hK2⟩
  refine enter fn_long_Div rfl nt_long_Div rfl rfl (fun φ w0 β0 F => ?_)
  refine c_run tt_ok ctB_ok k_long_Div [] 60 (by kernel_rfl) ?_
  have eh : ∀ x : Int, IntKind.u32.wrap x = Uw x := fun x => IntKind.wrap_u32 x
  have hh : decide (IntKind.u32.wrap hi ≥ IntKind.u32.wrap d) = lgDivO hi d := by rw [eh, eh]; rfl
  refine ⟨fun h => ?_, fun h => ?_⟩
  · exact fin_k tt_ok (rs := rs_long_Div) rfl rfl (hK1 (hh ▸ h)) [] rfl rfl rfl rfl rfl rfl
  · have h' : lgDivO hi d = false := hh ▸ h
    have hlt : Uw hi < Uw d := by simpa [lgDivO] using h'
    refine ⟨by simp only [eh]; exact ⟨Uw_lo _, hlt, Uw_hi _, Uw_lo _, Uw_hi _⟩, ?_⟩
    refine fin_k tt_ok (rs := rs_long_Div) rfl rfl (hK2 h') [] (t3b ?_ ?_ rfl) rfl rfl rfl rfl rfl
    · simp only [eh]; rw [wrapW]; rfl
    · simp only [eh]; rw [wrapW]; rfl

noncomputable abbrev ctC : CT := [(f_long_double_value, in_long_double_value []), (f_long_split, in_long_split [])]
theorem ctC_ok : CTok Try.prog ctC := ⟨in_long_double_value_ok trivial, in_long_split_ok trivial, trivial⟩
noncomputable abbrev ctD : CT := [(f_long_double_left, in_long_double_left ctC), (f_long_double_right, in_long_double_right ctC)]
theorem ctD_ok : CTok Try.prog ctD := ⟨in_long_double_left_ok ctC_ok, in_long_double_right_ok ctC_ok, trivial⟩
noncomputable abbrev ctE : CT := [(f_long_shifted, in_long_shifted ctD)]
theorem ctE_ok : CTok Try.prog ctE := ⟨in_long_shifted_ok ctD_ok, trivial⟩

theorem u64u32 (n : Int) : IntKind.u64.wrap (IntKind.u32.wrap n) = ((Uw n).toNat : Int) := by simp only [IntKind.wrap_u64, IntKind.wrap_u32, Uw]; omega
theorem u64nn (n : Int) : 0 ≤ IntKind.u64.wrap (IntKind.u32.wrap n) := by rw [u64u32]; omega
theorem u64tn (n : Int) : (IntKind.u64.wrap (IntKind.u32.wrap n)).toNat = (Uw n).toNat := by rw [u64u32]; omega
theorem i32u32 (n : Int) : IntKind.i32.wrap (IntKind.u32.wrap n) = Wd n := by simp only [IntKind.wrap_i32, IntKind.wrap_u32, Wd]; omega

theorem Shl_c (hi lo n : Int) : Con Try.prog f_long_Shl [.s (.int .i32 hi), .s (.int .i32 lo), .s (.int .i32 n)] [] (.ret (.tup [.s (.int .i32 (lgShlH hi lo n)), .s (.int .i32 (lgShl hi lo n))]) []) := by
  intro K hK
  refine enter fn_long_Shl rfl nt_long_Shl rfl rfl (fun φ w0 β0 F => ?_)
  refine c_run tt_ok ctE_ok k_long_Shl [] 60 (by kernel_rfl) ?_
  refine ⟨u64nn n, ?_⟩
  have e : ∀ x : Int, IntKind.u64.wrap (x * 2 ^ min (IntKind.u64.wrap (IntKind.u32.wrap n)).toNat IntKind.u64.bits) = shlV x n := fun x => by rw [IntKind.wrap_u64, shl_min, u64tn]; rfl
  refine fin_k tt_ok (rs := rs_long_Shl) rfl rfl hK [] (t2 ?_ ?_) rfl rfl rfl rfl rfl
  · rw [dv_prog, e, fdiv32u, i32u32]; rfl
  · rw [dv_prog, e, i32u32]; rfl

theorem Shr_c (hi lo n : Int) : Con Try.prog f_long_Shr [.s (.int .i32 hi), .s (.int .i32 lo), .s (.int .i32 n)] [] (.ret (.tup [.s (.int .i32 (lgShrH hi lo n)), .s (.int .i32 (lgShr hi lo n))]) []) := by
  intro K hK
  refine enter fn_long_Shr rfl nt_long_Shr rfl rfl (fun φ w0 β0 F => ?_)
  refine c_run tt_ok ctE_ok k_long_Shr [] 60 (by kernel_rfl) ?_
  refine ⟨u64nn n, ?_⟩
  have e : (Dv hi lo).fdiv (2 ^ min (IntKind.u64.wrap (IntKind.u32.wrap n)).toNat IntKind.u64.bits) = shrV (Dv hi lo) n := by rw [shr_min (Dv_lo _ _) (Dv_hi _ _), u64tn]; rfl
  refine fin_k tt_ok (rs := rs_long_Shr) rfl rfl hK [] (t2 ?_ ?_) rfl rfl rfl rfl rfl
  · rw [dv_prog, e, fdiv32u, i32u32]; rfl
  · rw [dv_prog, e, i32u32]; rfl


/-- math/bits' table. -/
def tab8 : List UInt8 := (List.range 256).map fun j => UInt8.ofNat (bitLen j)
theorem len_leaf (z : Int) (n x : Nat) (h0 : 0 ≤ z) (hx : z.toNat / 2 ^ n = x) (hlt : x < 256) (hnz : n = 0 ∨ 0 < x) {tab : List UInt8} (ht : ∀ j : Fin 256, tab[j.val]? = some (UInt8.ofNat (bitLen j.val))) :
    tab[x]? = some (UInt8.ofNat (bitLen x)) ∧ (n : Int) + ((UInt8.ofNat (bitLen x)).toNat : Int) = (bitLen z.toNat : Int) := by
  refine ⟨ht ⟨x, hlt⟩, ?_⟩
  have hb : bitLen x ≤ 9 := by
    unfold bitLen; split
    · omega
    · have := Nat.log2_lt (n := x) (k := 8) (by omega); omega
  have e : (UInt8.ofNat (bitLen x)).toNat = bitLen x := by simp; omega
  rw [e]
  rcases hnz with rfl | h
  · simp at hx; rw [← hx]; omega
  · subst hx
    have := bitLen_div (z := z.toNat) (n := n) (by omega)
    omega
theorem Len64_c (z : Int) (h0 : 0 ≤ z) (h1 : z < 18446744073709551616) : Con Try.prog f_math_bits_Len64 [.s (.int .u64 z)] [] (.ret (.t (.s (.int .i64 (bitLen z.toNat : Int)))) []) := by
  intro K hK
  refine enter fn_math_bits_Len64 rfl nt_math_bits_Len64 rfl rfl (fun φ w0 β0 F => ?_)
  refine c_run tt_ok (ct := []) trivial k_math_bits_Len64 [] 60 (by kernel_rfl) ?_
  have d32 : ∀ x : Int, x.fdiv (2 ^ min 32 IntKind.u64.bits) = x / 4294967296 := fdiv32u
  have d16 : ∀ x : Int, x.fdiv (2 ^ min 16 IntKind.u64.bits) = x / 65536 := fun x => Int.fdiv_eq_ediv_of_nonneg _ (by decide)
  have d8 : ∀ x : Int, x.fdiv (2 ^ min 8 IntKind.u64.bits) = x / 256 := fun x => Int.fdiv_eq_ediv_of_nonneg _ (by decide)
  refine ⟨fun a1 => ⟨fun a2 => ⟨fun a3 => ?_, fun a3 => ?_⟩, fun a2 => ⟨fun a3 => ?_, fun a3 => ?_⟩⟩, fun a1 => ⟨fun a2 => ⟨fun a3 => ?_, fun a3 => ?_⟩, fun a2 => ⟨fun a3 => ?_, fun a3 => ?_⟩⟩⟩
  all_goals
    simp only [d32, d16, d8, ge_iff_le, decide_eq_true_eq, decide_eq_false_iff_not] at a1 a2 a3
  · have hl := fun (tab : List UInt8) ht => len_leaf z 56 (z / 4294967296 / 65536 / 256).toNat h0 (by omega) (by omega) (by omega) (tab := tab) ht
    refine ⟨(z / 4294967296 / 65536 / 256).toNat, UInt8.ofNat (bitLen (z / 4294967296 / 65536 / 256).toNat), ⟨by rw [d32, d16, d8, IntKind.wrap_u8]; omega, (hl _ (by decide +kernel)).1⟩, ?_⟩
    have hv := (hl tab8 (by decide +kernel)).2
    refine fin_k tt_ok (rs := rs_math_bits_Len64) rfl rfl hK [] (t1 ?_) rfl rfl rfl rfl rfl
    have hb := (UInt8.ofNat (bitLen (z / 4294967296 / 65536 / 256).toNat)).toNat_lt
    simp only [IntKind.wrap_i64]; omega
  · have hl := fun (tab : List UInt8) ht => len_leaf z 48 (z / 4294967296 / 65536).toNat h0 (by omega) (by omega) (by omega) (tab := tab) ht
    refine ⟨(z / 4294967296 / 65536).toNat, UInt8.ofNat (bitLen (z / 4294967296 / 65536).toNat), ⟨by rw [d32, d16, IntKind.wrap_u8]; omega, (hl _ (by decide +kernel)).1⟩, ?_⟩
    have hv := (hl tab8 (by decide +kernel)).2
    refine fin_k tt_ok (rs := rs_math_bits_Len64) rfl rfl hK [] (t1 ?_) rfl rfl rfl rfl rfl
    have hb := (UInt8.ofNat (bitLen (z / 4294967296 / 65536).toNat)).toNat_lt
    simp only [IntKind.wrap_i64]; omega
  · have hl := fun (tab : List UInt8) ht => len_leaf z 40 (z / 4294967296 / 256).toNat h0 (by omega) (by omega) (by omega) (tab := tab) ht
    refine ⟨(z / 4294967296 / 256).toNat, UInt8.ofNat (bitLen (z / 4294967296 / 256).toNat), ⟨by rw [d32, d8, IntKind.wrap_u8]; omega, (hl _ (by decide +kernel)).1⟩, ?_⟩
    have hv := (hl tab8 (by decide +kernel)).2
    refine fin_k tt_ok (rs := rs_math_bits_Len64) rfl rfl hK [] (t1 ?_) rfl rfl rfl rfl rfl
    have hb := (UInt8.ofNat (bitLen (z / 4294967296 / 256).toNat)).toNat_lt
    simp only [IntKind.wrap_i64]; omega
  · have hl := fun (tab : List UInt8) ht => len_leaf z 32 (z / 4294967296).toNat h0 (by omega) (by omega) (by omega) (tab := tab) ht
    refine ⟨(z / 4294967296).toNat, UInt8.ofNat (bitLen (z / 4294967296).toNat), ⟨by rw [d32, IntKind.wrap_u8]; omega, (hl _ (by decide +kernel)).1⟩, ?_⟩
    have hv := (hl tab8 (by decide +kernel)).2
    refine fin_k tt_ok (rs := rs_math_bits_Len64) rfl rfl hK [] (t1 ?_) rfl rfl rfl rfl rfl
    have hb := (UInt8.ofNat (bitLen (z / 4294967296).toNat)).toNat_lt
    simp only [IntKind.wrap_i64]; omega
  · have hl := fun (tab : List UInt8) ht => len_leaf z 24 (z / 65536 / 256).toNat h0 (by omega) (by omega) (by omega) (tab := tab) ht
    refine ⟨(z / 65536 / 256).toNat, UInt8.ofNat (bitLen (z / 65536 / 256).toNat), ⟨by rw [d16, d8, IntKind.wrap_u8]; omega, (hl _ (by decide +kernel)).1⟩, ?_⟩
    have hv := (hl tab8 (by decide +kernel)).2
    refine fin_k tt_ok (rs := rs_math_bits_Len64) rfl rfl hK [] (t1 ?_) rfl rfl rfl rfl rfl
    have hb := (UInt8.ofNat (bitLen (z / 65536 / 256).toNat)).toNat_lt
    simp only [IntKind.wrap_i64]; omega
  · have hl := fun (tab : List UInt8) ht => len_leaf z 16 (z / 65536).toNat h0 (by omega) (by omega) (by omega) (tab := tab) ht
    refine ⟨(z / 65536).toNat, UInt8.ofNat (bitLen (z / 65536).toNat), ⟨by rw [d16, IntKind.wrap_u8]; omega, (hl _ (by decide +kernel)).1⟩, ?_⟩
    have hv := (hl tab8 (by decide +kernel)).2
    refine fin_k tt_ok (rs := rs_math_bits_Len64) rfl rfl hK [] (t1 ?_) rfl rfl rfl rfl rfl
    have hb := (UInt8.ofNat (bitLen (z / 65536).toNat)).toNat_lt
    simp only [IntKind.wrap_i64]; omega
  · have hl := fun (tab : List UInt8) ht => len_leaf z 8 (z / 256).toNat h0 (by omega) (by omega) (by omega) (tab := tab) ht
    refine ⟨(z / 256).toNat, UInt8.ofNat (bitLen (z / 256).toNat), ⟨by rw [d8, IntKind.wrap_u8]; omega, (hl _ (by decide +kernel)).1⟩, ?_⟩
    have hv := (hl tab8 (by decide +kernel)).2
    refine fin_k tt_ok (rs := rs_math_bits_Len64) rfl rfl hK [] (t1 ?_) rfl rfl rfl rfl rfl
    have hb := (UInt8.ofNat (bitLen (z / 256).toNat)).toNat_lt
    simp only [IntKind.wrap_i64]; omega
  · have hl := fun (tab : List UInt8) ht => len_leaf z 0 z.toNat h0 (by omega) (by omega) (by omega) (tab := tab) ht
    refine ⟨z.toNat, UInt8.ofNat (bitLen z.toNat), ⟨by rw [IntKind.wrap_u8]; omega, (hl _ (by decide +kernel)).1⟩, ?_⟩
    have hv := (hl tab8 (by decide +kernel)).2
    refine fin_k tt_ok (rs := rs_math_bits_Len64) rfl rfl hK [] (t1 ?_) rfl rfl rfl rfl rfl
    have hb := (UInt8.ofNat (bitLen z.toNat)).toNat_lt
    simp only [IntKind.wrap_i64]; omega
end Go.Proofs

namespace Go.Proofs
open Go Go.Sx
set_option maxRecDepth 10000

theorem Value_c (w : Int) (hw : I32 w) : Con Try.prog f_r02_Value [.s (.int .i32 w)] [] (.ret (.t (.s (.int .i64 (Uw w)))) []) := by
  intro K hK
  refine enter fn_r02_Value rfl nt_r02_Value rfl rfl (fun φ w0 β0 F => ?_)
  refine c_run tt_ok (ct := []) trivial k_r02_Value [] 60 (by kernel_rfl) ?_
  unfold I32 at hw
  refine ⟨fun h => ?_, fun h => ?_⟩
  all_goals
    simp only [decide_eq_true_eq, decide_eq_false_iff_not, IntKind.wrap_i64] at h
    refine fin_k tt_ok (rs := rs_r02_Value) rfl rfl hK [] (t1 ?_) rfl rfl rfl rfl rfl
    simp only [IntKind.wrap_i64]; unfold Uw; omega
theorem RWord_c (v : Int) (h0 : 0 ≤ v) (h1 : v < 4294967296) : Con Try.prog f_r02_Word [.s (.int .i64 v)] [] (.ret (.t (.s (.int .i32 (Wd v)))) []) := by
  intro K hK
  refine enter fn_r02_Word rfl nt_r02_Word rfl rfl (fun φ w0 β0 F => ?_)
  refine c_run tt_ok (ct := []) trivial k_r02_Word [] 60 (by kernel_rfl) ?_
  refine ⟨fun h => ?_, fun h => ?_⟩
  all_goals
    simp only [decide_eq_true_eq, decide_eq_false_iff_not] at h
    refine fin_k tt_ok (rs := rs_r02_Word) rfl rfl hK [] (t1 ?_) rfl rfl rfl rfl rfl
    simp only [IntKind.wrap_i64, IntKind.wrap_i32]; unfold Wd; omega

noncomputable abbrev eValue : Ent := .st (conS (P := Try.prog) (f := f_r02_Value) fun cargs σ0 => match cargs, σ0 with
  | [.s (.int .i32 w)], [] => some ⟨.ask (I32 w) (.ret (.t (.s (.int .i64 (Uw w)))) []), fun K h => Value_c w h.1 K h.2⟩
  | _, _ => none)
noncomputable abbrev eRWord : Ent := .st (conS (P := Try.prog) (f := f_r02_Word) fun cargs σ0 => match cargs, σ0 with
  | [.s (.int .i64 v)], [] => some ⟨.ask (0 ≤ v ∧ v < 4294967296) (.ret (.t (.s (.int .i32 (Wd v)))) []), fun K h => RWord_c v h.1.1 h.1.2 K h.2⟩
  | _, _ => none)
noncomputable abbrev ctV : CT := [(f_r02_Value, eValue), (f_r02_Word, eRWord)]
theorem ctV_ok : CTok Try.prog ctV := ⟨con_ok cal_r02_Value _, con_ok cal_r02_Word _, trivial⟩

theorem bits_c (w : Int) (hw : I32 w) : Con Try.prog f_r02_bits [.s (.int .i32 w)] [] (.all (List Int × Nat) (fun x => IsB x.1 32 (Uw w) ∧ 32 ≤ x.2) (fun x => .ret (.t (.s (.sl 0 0 32 x.2))) [.own 3 1 x.2 (intsI x.1)])) := by
  intro K hK
  refine enter fn_r02_bits rfl nt_r02_bits rfl rfl (fun φ w0 β0 F => ?_)
  refine c_run tt_ok ctV_ok k_r02_bits [] 60 (by kernel_rfl) ?_
  refine ⟨hw, ?_⟩
  show WpC _ _ _ _ _
  refine WpC.into (nilSlot 4 3 1 rfl) ?_
  refine c_loop (α := List Int × Int × Nat) (fun x => Bits x.1 ∧ x.1.length ≤ 32 ∧ valL x.1 + 2 ^ x.1.length * x.2.1 = Uw w ∧ 0 ≤ x.2.1 ∧ x.1.length ≤ x.2.2) (fun x => 32 - x.1.length)
    (fun x => [(3, .t (.s (.int .i64 x.2.1)), none), (4, .t (.s (.sl 0 0 x.1.length x.2.2)), none), (5, .t (.s (.int .i64 (x.1.length : Int))), none)])
    (fun x => [.own 3 1 x.2.2 (intsI x.1)]) ([], Uw w, 0) ⟨by intro b hb; simp at hb, by simp, by simp [valL], Uw_lo w, by simp⟩ ?_ ?_
  · exact into [0] ⟨⟨_, rfl, rfl⟩, ⟨_, rfl, rfl⟩, ⟨_, rfl, rfl⟩, trivial⟩ ⟨_, rfl, rfl⟩ rfl rfl rfl rfl
  · rintro ⟨l, v, c⟩ ⟨hb, hl, hv, hv0, hlc⟩
    simp only at hb hl hv hv0 hlc
    dsimp only
    refine c_run' tt_ok ctV_ok k_r02_bits [] 60 (by kernel_rfl) (by kernel_rfl) ?_
    refine ⟨fun h1 => ?_, fun h1 => ?_⟩
    · simp only [decide_eq_true_eq] at h1
      refine ⟨⟨rfl, by simp, Nat.le_refl _, one_u rfl, by simp only [maxLen]; omega, by omega⟩, fun c1 hc1 hc2 => ?_⟩
      have hvU : v ≤ Uw w := by
        have := valL_range hb
        have hp := pow2_pos l.length
        have : v ≤ 2 ^ l.length * v := by have := Int.mul_le_mul_of_nonneg_right (show (1 : Int) ≤ 2 ^ l.length by omega) hv0; omega
        omega
      have hv2 : v < 4294967296 := Int.lt_of_le_of_lt hvU (Uw_hi w)
      have et : v.tmod 2 = v % 2 := Int.tmod_eq_emod_of_nonneg hv0
      have eq2 : IntKind.i64.wrap (v.tdiv 2) = v / 2 := by rw [Int.tdiv_eq_ediv_of_nonneg hv0, IntKind.wrap_i64]; omega
      refine e_again (l ++ [v % 2], v / 2, c1) ⟨?_, by simp; omega, ?_, show 0 ≤ v / 2 by omega, by simpa using hc1⟩ (by simp; omega) (into [2] ⟨⟨_, rfl, fvi eq2⟩, ⟨_, rfl, fvsl rfl (show l.length + 1 = (l ++ [v % 2]).length by simp) rfl⟩, ⟨_, rfl, fvi (by rw [wrapSucc (by omega), List.length_append]; rfl)⟩, trivial⟩ ⟨_, rfl, ?_⟩ rfl rfl rfl rfl)
      · exact hb.append (fun b hb => by simp at hb; omega)
      · rw [valL_append, List.length_append, List.length_singleton, Int.pow_succ]
        simp only [valL]
        rw [← hv, Int.mul_assoc, Int.add_assoc, ← Int.mul_add]
        congr 2; omega
      · rw [intsI_append]
        show _ = [Ch.own 3 1 c1 (intsI l ++ [Value.int .i64 (v % 2)])]
        rw [← et]; rfl
    · simp only [decide_eq_false_iff_not] at h1
      have hlen : l.length = 32 := by omega
      have hval : valL l = Uw w := by
        have := valL_range hb
        have h2 := Uw_hi w
        rw [hlen] at hv this
        have e : (2 : Int) ^ 32 = 4294967296 := by decide
        rw [e] at hv this
        omega
      refine fin_k tt_ok (rs := rs_r02_bits) rfl rfl (hK (l, c) ⟨⟨hlen, hb, hval⟩, by omega⟩) [0] ?_ rfl rfl rfl rfl rfl
      show FV.t (.s (.sl 0 0 l.length c)) = _
      rw [hlen]; rfl
end Go.Proofs

namespace Go.Proofs
open Go Go.Sx
set_option maxRecDepth 10000

noncomputable abbrev eBits : Ent := .st (conS (P := Try.prog) (f := f_r02_bits) fun cargs σ0 => match cargs, σ0 with
  | [.s (.int .i32 w)], [] => some ⟨.ask (I32 w) (.all (List Int × Nat) (fun x => IsB x.1 32 (Uw w) ∧ 32 ≤ x.2) (fun x => .ret (.t (.s (.sl 0 0 32 x.2))) [.own 3 1 x.2 (intsI x.1)])), fun K h => bits_c w h.1 K h.2⟩
  | _, _ => none)

/-! word reads -/
theorem valL_drop_lt {l : List Int} (hb : Bits l) (hl : l.length ≤ 32) (j : Nat) : 0 ≤ valL (l.drop j) ∧ valL (l.drop j) < 4294967296 := by
  have := valL_range (hb.drop j)
  have h2 : (2 : Int) ^ (l.drop j).length ≤ 2 ^ 32 := by
    rw [pow_split (show (l.drop j).length ≤ 32 by simp; omega)]
    have h1 := pow2_pos (32 - (l.drop j).length)
    have h3 := pow2_pos (l.drop j).length
    have := Int.mul_le_mul_of_nonneg_left (show (1 : Int) ≤ 2 ^ (32 - (l.drop j).length) by omega) (show (0 : Int) ≤ 2 ^ (l.drop j).length by omega)
    omega
  have e : (2 : Int) ^ 32 = 4294967296 := by decide
  omega
theorem word_rd (l : List Int) (n c : Nat) (hb : Bits l) (hl : l.length = n) (hn : n ≤ 32) : RdS Try.prog f_r02_word [.row (intsI l) n c] (.t (.s (.int .i32 (Wd (valL l))))) := by
  show TriS _ _ [.s (.sl 0 0 n c)] [.view (intsI l)] _ _ _
  refine enter fn_r02_word rfl nt_r02_word rfl rfl (fun φ w0 β0 F => ?_)
  refine c_run tt_ok ctV_ok k_r02_word [] 60 (by kernel_rfl) ?_
  show WpC _ _ _ _ _
  refine c_loop (α := Nat) (fun j => j ≤ n) (fun j => j)
    (fun j => [(0, .t (.s (.sl 0 0 n c)), none), (3, .t (.s (.int .i64 (valL (l.drop j)))), none), (4, .t (.s (.int .i64 ((j : Int) - 1))), none)])
    (fun _ => [.view (intsI l)]) n (Nat.le_refl _) ?_ ?_
  · refine into [0] ⟨⟨_, rfl, rfl⟩, ⟨_, rfl, fvi ?_⟩, ⟨_, rfl, fvi ?_⟩, trivial⟩ ⟨_, rfl, rfl⟩ rfl rfl rfl rfl
    · rw [← hl, List.drop_length]; rfl
    · rw [wrap64 (by omega) (by omega)]
  · rintro j hj
    dsimp only
    refine c_run' tt_ok ctV_ok k_r02_word [] 60 (by kernel_rfl) (by kernel_rfl) ?_
    refine ⟨fun h1 => ?_, fun h1 => ?_⟩
    · simp only [ge_iff_le, decide_eq_true_eq] at h1
      have hlt : j - 1 < l.length := by omega
      refine ⟨j - 1, ⟨by omega, by omega, by simp; omega⟩, .int .i64 (l.getD (j - 1) 0), rfl, intsI_at hlt, ?_⟩
      have hd : l.drop (j - 1) = l.getD (j - 1) 0 :: l.drop j := by
        rw [List.drop_eq_getElem_cons hlt, show j - 1 + 1 = j by omega]; simp [hlt]
      have hv := valL_drop_lt hb (by omega) (j - 1)
      have hv' := valL_drop_lt hb (by omega) j
      have he : valL (l.drop (j - 1)) = l.getD (j - 1) 0 + 2 * valL (l.drop j) := by rw [hd]; rfl
      have hb1 := hb.get hlt
      refine e_again (j - 1) (show j - 1 ≤ n by omega) (show j - 1 < j by omega) (into [0] ⟨⟨_, rfl, rfl⟩, ⟨_, rfl, fvi ?_⟩, ⟨_, rfl, fvi ?_⟩, trivial⟩ ⟨_, rfl, rfl⟩ rfl rfl rfl rfl)
      · rw [he]; simp only [IntKind.wrap_i64]; omega
      · simp only [IntKind.wrap_i64]; omega
    · simp only [ge_iff_le, decide_eq_false_iff_not] at h1
      have h0 : j = 0 := by omega
      subst h0
      have hv := valL_drop_lt hb (by omega) 0
      refine ⟨hv, ?_⟩
      exact fin_ret tt_ok (rs := rs_r02_word) rfl rfl () [0] trivial rfl rfl rfl rfl rfl rfl
def rdWord : List RA → (Prop → Prop) → (FV → Prop) → Option Prop
  | [.row xs n _], ask, k => some (∃ l : List Int, ask (xs = intsI l ∧ Bits l ∧ l.length = n ∧ n ≤ 32) ∧ k (.t (.s (.int .i32 (Wd (valL l))))))
  | _, _, _ => none
theorem re_word : REok Try.prog f_r02_word rdWord := ⟨cal_r02_word, fun args ask k R h hR => by
  unfold rdWord at h
  split at h
  · cases h
    obtain ⟨l, h1, h2⟩ := hR
    refine ⟨_, h2, rfl, fun hp => ?_⟩
    obtain ⟨rfl, hb, hl, hn⟩ := hp _ h1
    exact word_rd l _ _ hb hl hn
  · cases h⟩

noncomputable abbrev ctW : CT := [(f_r02_Value, eValue), (f_r02_Word, eRWord), (f_r02_bits, eBits), (f_r02_word, .rd rdWord)]
theorem ctW_ok : CTok Try.prog ctW := ⟨con_ok cal_r02_Value _, con_ok cal_r02_Word _, con_ok cal_r02_bits _, re_word, trivial⟩

theorem double_c (hi lo : Int) (h1 : I32 hi) (h2 : I32 lo) : Con Try.prog f_r02_double [.s (.int .i32 hi), .s (.int .i32 lo)] [] (.all (List Int × Nat) (fun x => IsB x.1 64 (Dv hi lo) ∧ 64 ≤ x.2) (fun x => .ret (.t (.s (.sl 0 0 64 x.2))) [.own 3 1 x.2 (intsI x.1)])) := by
  intro K hK
  refine enter fn_r02_double rfl nt_r02_double rfl rfl (fun φ w0 β0 F => ?_)
  refine c_run tt_ok ctW_ok k_r02_double [] 60 (by kernel_rfl) ?_
  refine ⟨h2, ?_⟩
  rintro ⟨a, ca⟩ ⟨ha, hca⟩
  refine ⟨h1, ?_⟩
  rintro ⟨b, cb⟩ ⟨hb, hcb⟩
  simp only at ha hca hb hcb
  refine ⟨⟨rfl, by simp [ha.len], by simp [hb.len], by rw [seg_intsI]; exact intsI_one _, by decide, by decide⟩, fun c1 hc1 hc2 => ?_⟩
  refine fin_k tt_ok (rs := rs_r02_double) rfl rfl (hK (a ++ b, c1) ⟨⟨by simp [ha.len, hb.len], ha.bits.append hb.bits, ?_⟩, hc1⟩) [2] rfl ?_ rfl rfl rfl rfl
  · rw [valL_append, ha.len, ha.val, hb.val]; unfold Dv
    have e : (2 : Int) ^ 32 = 4294967296 := by decide
    rw [e, Int.mul_comm]; omega
  · have e : seg (intsI b) 0 (32 * 1) = intsI b := by rw [seg_intsI, List.drop_zero, List.take_of_length_le (by rw [hb.len]; decide)]
    show some [Ch.own 3 1 c1 (intsI a ++ seg (intsI b) 0 (32 * 1))] = some [Ch.own 3 1 c1 (intsI (a ++ b))]
    rw [e, intsI_append]

noncomputable abbrev eDouble : Ent := .st (conS (P := Try.prog) (f := f_r02_double) fun cargs σ0 => match cargs, σ0 with
  | [.s (.int .i32 hi), .s (.int .i32 lo)], [] => some ⟨.ask (I32 hi ∧ I32 lo) (.all (List Int × Nat) (fun x => IsB x.1 64 (Dv hi lo) ∧ 64 ≤ x.2) (fun x => .ret (.t (.s (.sl 0 0 64 x.2))) [.own 3 1 x.2 (intsI x.1)])), fun K h => double_c hi lo h.1.1 h.1.2 K h.2⟩
  | _, _ => none)

/-- plus: what it leaves. -/
abbrev plusO (n c1 c2 : Nat) (x y : List Int) (b : Int) : Out :=
  .all (List Int × Nat × Int) (fun p => (p.1.length = n ∧ Bits p.1 ∧ n ≤ p.2.1) ∧ (p.2.2 = 0 ∨ p.2.2 = 1) ∧ valL p.1 + 2 ^ n * p.2.2 = valL x + valL y + b)
    (fun p => .ret (.tup [.s (.sl 2 0 n p.2.1), .s (.int .i64 p.2.2)]) [.own 3 1 c1 (intsI x), .own 3 1 c2 (intsI y), .own 3 1 p.2.1 (intsI p.1)])
theorem plus_c (n c1 c2 : Nat) (x y : List Int) (b : Int) (hx : x.length = n) (hy : y.length = n) (hn : n ≤ 64) (bx : Bits x) (by' : Bits y) (hb : b = 0 ∨ b = 1) :
    Con Try.prog f_r02_plus [.s (.sl 0 0 n c1), .s (.sl 1 0 n c2), .s (.int .i64 b)] [.own 3 1 c1 (intsI x), .own 3 1 c2 (intsI y)] (plusO n c1 c2 x y b) := by
  intro K hK
  refine enter fn_r02_plus rfl nt_r02_plus rfl rfl (fun φ w0 β0 F => ?_)
  refine c_run tt_ok (ct := []) trivial k_r02_plus [] 60 (by kernel_rfl) ?_
  show WpC _ _ _ _ _
  refine WpC.into (nilSlot 8 3 1 rfl) ?_
  refine c_loop (α := List Int × Nat × Int) (fun p => (p.1.length ≤ n ∧ Bits p.1 ∧ p.1.length ≤ p.2.1) ∧ (p.2.2 = 0 ∨ p.2.2 = 1) ∧ valL p.1 + 2 ^ p.1.length * p.2.2 = valL (x.take p.1.length) + valL (y.take p.1.length) + b) (fun p => n - p.1.length)
    (fun p => [(0, .t (.s (.sl 0 0 n c1)), none), (1, .t (.s (.sl 1 0 n c2)), none), (2, .t (.s (.int .i64 p.2.2)), none), (8, .t (.s (.sl 2 0 p.1.length p.2.1)), none), (9, .t (.s (.int .i64 (p.1.length : Int))), none)])
    (fun p => [.own 3 1 c1 (intsI x), .own 3 1 c2 (intsI y), .own 3 1 p.2.1 (intsI p.1)]) ([], 0, b) ⟨⟨by simp, by intro b hb; simp at hb, by simp⟩, hb, by simp [valL]⟩ ?_ ?_
  · exact into [0, 1, 2] ⟨⟨_, rfl, rfl⟩, ⟨_, rfl, rfl⟩, ⟨_, rfl, rfl⟩, ⟨_, rfl, rfl⟩, ⟨_, rfl, rfl⟩, trivial⟩ ⟨_, rfl, rfl⟩ rfl rfl rfl rfl
  · rintro ⟨z, c, q⟩ ⟨⟨hl, hz, hc⟩, hq, hv⟩
    simp only at hl hz hc hq hv
    dsimp only
    refine c_run' tt_ok (ct := []) trivial k_r02_plus [] 60 (by kernel_rfl) (by kernel_rfl) ?_
    refine ⟨fun h1 => ?_, fun h1 => ?_⟩
    · simp only [decide_eq_true_eq] at h1
      have hzn : z.length < n := by omega
      have gx := bx.get (i := z.length) (by omega)
      have gy := by'.get (i := z.length) (by omega)
      refine ⟨z.length, ⟨rfl, hzn, by simp; omega⟩, .int .i64 (x.getD z.length 0), rfl, intsI_at (by omega), ?_⟩
      refine ⟨z.length, ⟨rfl, hzn, by simp; omega⟩, .int .i64 (y.getD z.length 0), rfl, intsI_at (by omega), ?_⟩
      refine ⟨⟨rfl, by simp, Nat.le_refl _, one_u rfl, by simp only [maxLen]; omega, by omega⟩, fun c' hc1 hc2 => ?_⟩
      have es : IntKind.i64.wrap (IntKind.i64.wrap (x.getD z.length 0 + y.getD z.length 0) + q) = x.getD z.length 0 + y.getD z.length 0 + q := by simp only [IntKind.wrap_i64]; omega
      have em : ∀ s : Int, 0 ≤ s → s.tmod 2 = s % 2 := fun s hs => Int.tmod_eq_emod_of_nonneg hs
      have ed : ∀ s : Int, 0 ≤ s → s ≤ 3 → IntKind.i64.wrap (s.tdiv 2) = s / 2 := fun s hs hs' => by rw [Int.tdiv_eq_ediv_of_nonneg hs, IntKind.wrap_i64]; omega
      have tk : ∀ (u : List Int), z.length < u.length → u.take (z.length + 1) = u.take z.length ++ [u.getD z.length 0] := fun u hu => by
        rw [List.take_succ_eq_append_getElem hu]; simp [hu]
      refine e_again (z ++ [(x.getD z.length 0 + y.getD z.length 0 + q) % 2], c', (x.getD z.length 0 + y.getD z.length 0 + q) / 2) ⟨⟨by simp; omega, hz.append (fun b hb => by simp at hb; omega), by simpa using hc1⟩, by show (x.getD z.length 0 + y.getD z.length 0 + q) / 2 = 0 ∨ (x.getD z.length 0 + y.getD z.length 0 + q) / 2 = 1; omega, ?_⟩ (by simp; omega)
        (into [0, 1, 4] ⟨⟨_, rfl, rfl⟩, ⟨_, rfl, rfl⟩, ⟨_, rfl, fvi ?_⟩, ⟨_, rfl, fvsl rfl (show z.length + 1 = (z ++ [_]).length by simp) rfl⟩, ⟨_, rfl, fvi (by rw [wrapSucc (by omega), List.length_append]; rfl)⟩, trivial⟩ ⟨_, rfl, ?_⟩ rfl rfl rfl rfl)
      · show valL (z ++ [_]) + 2 ^ (z ++ [_]).length * _ = valL (x.take (z ++ [_]).length) + valL (y.take (z ++ [_]).length) + b
        rw [List.length_append, List.length_singleton, tk x (by omega), tk y (by omega), valL_append, valL_append, valL_append, Int.pow_succ]
        simp only [valL, List.length_take]
        rw [Nat.min_eq_left (by omega), Nat.min_eq_left (by omega)]
        generalize (2 : Int) ^ z.length = p at *
        generalize hs : x.getD z.length 0 + y.getD z.length 0 + q = s at *
        have e1 : p * s = p * (s % 2) + p * 2 * (s / 2) := by
          rw [Int.mul_assoc, ← Int.mul_add]; congr 1; omega
        have e2 : p * s = p * x.getD z.length 0 + p * y.getD z.length 0 + p * q := by rw [← hs, Int.mul_add, Int.mul_add]
        simp only [Int.mul_zero, Int.add_zero]
        omega
      · rw [es, ed _ (by omega) (by omega)]
      · rw [intsI_append, ← em _ (by omega), ← es]; rfl
    · simp only [decide_eq_false_iff_not] at h1
      have hzn : z.length = n := by omega
      have hv' : valL z + 2 ^ n * q = valL x + valL y + b := by
        rw [hzn, List.take_of_length_le (by omega), List.take_of_length_le (by omega)] at hv; exact hv
      refine fin_k tt_ok (rs := rs_r02_plus) rfl rfl (hK (z, c, q) ⟨⟨hzn, hz, show n ≤ c by omega⟩, hq, hv'⟩) [0, 1, 2] ?_ rfl rfl rfl rfl rfl
      show FV.tup [.s (.sl 2 0 z.length c), .s (.int .i64 q)] = _
      rw [hzn]; rfl
end Go.Proofs

namespace Go.Proofs
open Go Go.Sx
set_option maxRecDepth 10000

noncomputable abbrev ePlus : Ent := .st (conS (P := Try.prog) (f := f_r02_plus) fun cargs σ0 => match cargs, σ0 with
  | [.s (.sl 0 0 n c1), .s (.sl 1 0 m c2), .s (.int .i64 b)], [.own 3 1 d1 xs, .own 3 1 d2 ys] => some ⟨.ex (List Int × List Int) fun p => .ask ((xs = intsI p.1 ∧ ys = intsI p.2 ∧ d1 = c1 ∧ d2 = c2 ∧ m = n) ∧ (p.1.length = n ∧ p.2.length = n ∧ n ≤ 64 ∧ Bits p.1 ∧ Bits p.2 ∧ (b = 0 ∨ b = 1))) (plusO n c1 c2 p.1 p.2 b),
      fun K h => by
        obtain ⟨⟨x, y⟩, ⟨⟨rfl, rfl, rfl, rfl, rfl⟩, h1, h2, h3, h4, h5, h6⟩, h7⟩ := h
        exact plus_c _ _ _ x y b h1 h2 h3 h4 h5 h6 K h7⟩
  | _, _ => none)

theorem setV_mid (p q r : List Value) (v w : Value) (h : q = p ++ w :: r) : setV q p.length [v] = p ++ v :: r := by
  subst h; simp [setV]
/-- The rows that left and right make, up to place i. -/
def lshL (l : List Int) (k i : Nat) : List Int := List.replicate k 0 ++ (l.take (i - k) ++ List.replicate (64 - i) 0)
def rshL (l : List Int) (k i : Nat) : List Int := (l.drop k).take i ++ List.replicate (64 - i) 0

theorem lshL_step {l : List Int} {k i : Nat} (hl : l.length = 64) (hk : k ≤ i) (hi : i < 64) : setV (intsI (lshL l k i)) i [Value.int .i64 (l.getD (i - k) 0)] = intsI (lshL l k (i + 1)) := by
  have h1 : (intsI (List.replicate k 0 ++ l.take (i - k))).length = i := by simp; omega
  have h2 : intsI (lshL l k i) = intsI (List.replicate k 0 ++ l.take (i - k)) ++ Value.int .i64 0 :: intsI (List.replicate (64 - (i + 1)) 0) := by
    unfold lshL
    rw [← List.append_assoc, intsI_append]
    congr 1
    rw [show 64 - i = 64 - (i + 1) + 1 by omega, List.replicate_succ]; rfl
  have := setV_mid _ _ _ (Value.int .i64 (l.getD (i - k) 0)) _ h2
  rw [h1] at this
  rw [this]
  have e : l.take (i + 1 - k) = l.take (i - k) ++ [l.getD (i - k) 0] := by
    rw [show i + 1 - k = i - k + 1 by omega, List.take_succ_eq_append_getElem (by omega)]; simp [show i - k < l.length by omega]
  unfold lshL
  rw [e]
  simp [intsI]
theorem rshL_step {l : List Int} {k i : Nat} (hl : l.length = 64) (hi : i + k < 64) : setV (intsI (rshL l k i)) i [Value.int .i64 (l.getD (i + k) 0)] = intsI (rshL l k (i + 1)) := by
  have h1 : (intsI ((l.drop k).take i)).length = i := by simp; omega
  have h2 : intsI (rshL l k i) = intsI ((l.drop k).take i) ++ Value.int .i64 0 :: intsI (List.replicate (64 - (i + 1)) 0) := by
    unfold rshL
    rw [intsI_append]
    congr 1
    rw [show 64 - i = 64 - (i + 1) + 1 by omega, List.replicate_succ]; rfl
  have := setV_mid _ _ _ (Value.int .i64 (l.getD (i + k) 0)) _ h2
  rw [h1] at this
  rw [this]
  have e : (l.drop k).take (i + 1) = (l.drop k).take i ++ [l.getD (i + k) 0] := by
    rw [List.take_succ_eq_append_getElem (by simp; omega)]; simp [show k + i < l.length by omega, Nat.add_comm]
  unfold rshL
  rw [e]
  simp [intsI]
theorem lshL_B {l : List Int} {k : Nat} {v : Int} (h : IsB l 64 v) (hk : k ≤ 64) : IsB (lshL l k 64) 64 (v * 2 ^ k % 18446744073709551616) := by
  have hl := h.len
  refine ⟨by simp [lshL]; omega, (Bits.zeros k).append ((h.bits.take _).append (Bits.zeros _)), ?_⟩
  unfold lshL
  rw [valL_append, valL_append, valL_zeros, valL_take h.bits (by omega), h.val]
  simp only [Nat.sub_self, List.replicate_zero, valL, Int.mul_zero, Int.add_zero, List.length_replicate, Int.zero_add]
  have e : (18446744073709551616 : Int) = 2 ^ k * 2 ^ (64 - k) := by rw [← Int.pow_add, show k + (64 - k) = 64 by omega]; decide
  rw [e, Int.mul_comm v, Int.mul_emod_mul_of_pos _ _ (pow2_pos k)]
theorem rshL_B {l : List Int} {k : Nat} {v : Int} (h : IsB l 64 v) (hk : k ≤ 64) : IsB (rshL l k (64 - k)) 64 (v / 2 ^ k) := by
  have hl := h.len
  refine ⟨by simp [rshL]; omega, ((h.bits.drop _).take _).append (Bits.zeros _), ?_⟩
  unfold rshL
  rw [valL_append, valL_zeros, List.take_of_length_le (by simp; omega), valL_drop h.bits (by omega), h.val]
  omega

abbrev lrO (c : Nat) (l : List Int) (v : Int) : Out := .all (List Int) (fun r => IsB r 64 v) (fun r => .ret (.t (.s (.sl 1 0 64 64))) [.own 3 1 c (intsI l), .own 3 1 64 (intsI r)])
theorem left_c (c : Nat) (l : List Int) (v : Int) (k : Nat) (hl : IsB l 64 v) (hk : k ≤ 64) :
    Con Try.prog f_r02_left [.s (.sl 0 0 64 c), .s (.int .i64 (k : Int))] [.own 3 1 c (intsI l)] (lrO c l (v * 2 ^ k % 18446744073709551616)) := by
  intro K hK
  have hll := hl.len
  refine enter fn_r02_left rfl nt_r02_left rfl rfl (fun φ w0 β0 F => ?_)
  refine c_run tt_ok (ct := []) trivial k_r02_left [] 60 (by kernel_rfl) ?_
  refine ⟨64, ⟨rfl, rfl, by decide, by decide⟩, ?_⟩
  show WpC _ _ _ _ _
  refine c_loop (α := Nat) (fun i => k ≤ i ∧ i ≤ 64) (fun i => 64 - i)
    (fun i => [(0, .t (.s (.sl 0 0 64 c)), none), (1, .t (.s (.int .i64 (k : Int))), none), (5, .t (.s (.sl 1 0 64 64)), none), (6, .t (.s (.int .i64 (i : Int))), none)])
    (fun i => [.own 3 1 c (intsI l), .own 3 1 64 (intsI (lshL l k i))]) k ⟨Nat.le_refl _, hk⟩ ?_ ?_
  · refine into [0, 1] ⟨⟨_, rfl, rfl⟩, ⟨_, rfl, rfl⟩, ⟨_, rfl, rfl⟩, ⟨_, rfl, rfl⟩, trivial⟩ ⟨_, rfl, ?_⟩ rfl rfl rfl rfl
    have e : lshL l k k = List.replicate 64 0 := by
      unfold lshL; rw [Nat.sub_self, List.take_zero, List.nil_append, List.replicate_append_replicate]; congr 1; omega
    show [Ch.own 3 1 c (intsI l), Ch.own 3 1 64 (List.replicate 64 (Value.int .i64 0))] = [Ch.own 3 1 c (intsI l), Ch.own 3 1 64 (intsI (lshL l k k))]
    rw [e]; rfl
  · rintro i ⟨h1, h2⟩
    refine c_run' tt_ok (ct := []) trivial k_r02_left [] 60 (by kernel_rfl) (by kernel_rfl) ?_
    refine ⟨fun h3 => ?_, fun h3 => ?_⟩
    · simp only [decide_eq_true_eq] at h3
      refine ⟨i - k, ⟨by rw [wrap64 (by omega) (by omega)]; omega, by omega, by simp; omega⟩, .int .i64 (l.getD (i - k) 0), rfl, intsI_at (by omega), ?_⟩
      refine ⟨i, ⟨rfl, by omega, by simp [lshL]; omega⟩, by show 0 + i * (0 + 1) + 1 ≤ _; simp [lshL]; omega, ?_⟩
      refine e_again (i + 1) ⟨by omega, by omega⟩ (by omega) (into [0, 1] ⟨⟨_, rfl, rfl⟩, ⟨_, rfl, rfl⟩, ⟨_, rfl, rfl⟩, ⟨_, rfl, fvi (by rw [wrapSucc (by omega)])⟩, trivial⟩ ⟨_, rfl, ?_⟩ rfl rfl rfl rfl)
      show [Ch.own 3 1 c (intsI l), Ch.own 3 1 64 (setV (intsI (lshL l k i)) (0 + i * (0 + 1)) [Value.int .i64 (l.getD (i - k) 0)])] = _
      rw [show 0 + i * (0 + 1) = i by omega, lshL_step hll h1 (by omega)]; rfl
    · simp only [decide_eq_false_iff_not] at h3
      have : i = 64 := by omega
      subst this
      exact fin_k tt_ok (rs := rs_r02_left) rfl rfl (hK (lshL l k 64) (lshL_B hl hk)) [0, 1] rfl rfl rfl rfl rfl rfl
theorem right_c (c : Nat) (l : List Int) (v : Int) (k : Nat) (hl : IsB l 64 v) (hk : k ≤ 64) :
    Con Try.prog f_r02_right [.s (.sl 0 0 64 c), .s (.int .i64 (k : Int))] [.own 3 1 c (intsI l)] (lrO c l (v / 2 ^ k)) := by
  intro K hK
  have hll := hl.len
  refine enter fn_r02_right rfl nt_r02_right rfl rfl (fun φ w0 β0 F => ?_)
  refine c_run tt_ok (ct := []) trivial k_r02_right [] 60 (by kernel_rfl) ?_
  refine ⟨64, ⟨rfl, rfl, by decide, by decide⟩, ?_⟩
  show WpC _ _ _ _ _
  refine c_loop (α := Nat) (fun i => i + k ≤ 64) (fun i => 64 - i)
    (fun i => [(0, .t (.s (.sl 0 0 64 c)), none), (1, .t (.s (.int .i64 (k : Int))), none), (5, .t (.s (.sl 1 0 64 64)), none), (6, .t (.s (.int .i64 (i : Int))), none)])
    (fun i => [.own 3 1 c (intsI l), .own 3 1 64 (intsI (rshL l k i))]) 0 (show 0 + k ≤ 64 by omega) ?_ ?_
  · refine into [0, 1] ⟨⟨_, rfl, rfl⟩, ⟨_, rfl, rfl⟩, ⟨_, rfl, rfl⟩, ⟨_, rfl, rfl⟩, trivial⟩ ⟨_, rfl, ?_⟩ rfl rfl rfl rfl
    rfl
  · intro i h1
    refine c_run' tt_ok (ct := []) trivial k_r02_right [] 60 (by kernel_rfl) (by kernel_rfl) ?_
    refine ⟨fun h3 => ?_, fun h3 => ?_⟩
    · have ew : IntKind.i64.wrap ((i : Int) + k) = (i : Int) + k := wrap64 (by omega) (by omega)
      rw [ew] at h3
      simp only [decide_eq_true_eq] at h3
      refine ⟨i + k, ⟨by rw [ew]; omega, by omega, by simp; omega⟩, .int .i64 (l.getD (i + k) 0), rfl, intsI_at (by omega), ?_⟩
      refine ⟨i, ⟨rfl, by omega, by simp [rshL]; omega⟩, by show 0 + i * (0 + 1) + 1 ≤ _; simp [rshL]; omega, ?_⟩
      refine e_again (i + 1) (show i + 1 + k ≤ 64 by omega) (by omega) (into [0, 1] ⟨⟨_, rfl, rfl⟩, ⟨_, rfl, rfl⟩, ⟨_, rfl, rfl⟩, ⟨_, rfl, fvi (by rw [wrapSucc (by omega)])⟩, trivial⟩ ⟨_, rfl, ?_⟩ rfl rfl rfl rfl)
      show [Ch.own 3 1 c (intsI l), Ch.own 3 1 64 (setV (intsI (rshL l k i)) (0 + i * (0 + 1)) [Value.int .i64 (l.getD (i + k) 0)])] = _
      rw [show 0 + i * (0 + 1) = i by omega, rshL_step hll (by omega)]; rfl
    · have ew : IntKind.i64.wrap ((i : Int) + k) = (i : Int) + k := wrap64 (by omega) (by omega)
      rw [ew] at h3
      simp only [decide_eq_false_iff_not] at h3
      have : i = 64 - k := by omega
      subst this
      exact fin_k tt_ok (rs := rs_r02_right) rfl rfl (hK (rshL l k (64 - k)) (rshL_B hl hk)) [0, 1] rfl rfl rfl rfl rfl rfl
end Go.Proofs

namespace Go.Proofs
open Go Go.Sx
set_option maxRecDepth 10000

noncomputable abbrev eLeft : Ent := .st (conS (P := Try.prog) (f := f_r02_left) fun cargs σ0 => match cargs, σ0 with
  | [.s (.sl 0 0 n c), .s (.int .i64 k)], [.own 3 1 d xs] => some ⟨.ex (List Int × Nat × Int) fun p => .ask ((xs = intsI p.1 ∧ d = c ∧ n = 64 ∧ k = (p.2.1 : Int)) ∧ IsB p.1 64 p.2.2 ∧ p.2.1 ≤ 64) (lrO c p.1 (p.2.2 * 2 ^ p.2.1 % 18446744073709551616)),
      fun K h => by
        obtain ⟨⟨l, j, v⟩, ⟨⟨rfl, rfl, rfl, rfl⟩, h1, h2⟩, h3⟩ := h
        exact left_c _ l v j h1 h2 K h3⟩
  | _, _ => none)
noncomputable abbrev eRight : Ent := .st (conS (P := Try.prog) (f := f_r02_right) fun cargs σ0 => match cargs, σ0 with
  | [.s (.sl 0 0 n c), .s (.int .i64 k)], [.own 3 1 d xs] => some ⟨.ex (List Int × Nat × Int) fun p => .ask ((xs = intsI p.1 ∧ d = c ∧ n = 64 ∧ k = (p.2.1 : Int)) ∧ IsB p.1 64 p.2.2 ∧ p.2.1 ≤ 64) (lrO c p.1 (p.2.2 / 2 ^ p.2.1)),
      fun K h => by
        obtain ⟨⟨l, j, v⟩, ⟨⟨rfl, rfl, rfl, rfl⟩, h1, h2⟩, h3⟩ := h
        exact right_c _ l v j h1 h2 K h3⟩
  | _, _ => none)

noncomputable abbrev ctR : CT := [(f_r02_Value, eValue), (f_r02_Word, eRWord), (f_r02_bits, eBits), (f_r02_word, .rd rdWord), (f_r02_double, eDouble), (f_r02_plus, ePlus), (f_r02_left, eLeft), (f_r02_right, eRight)]
theorem ctR_ok : CTok Try.prog ctR := ⟨con_ok cal_r02_Value _, con_ok cal_r02_Word _, con_ok cal_r02_bits _, re_word, con_ok cal_r02_double _, con_ok cal_r02_plus _, con_ok cal_r02_left _, con_ok cal_r02_right _, trivial⟩

theorem seg_whole {l : List Int} {n : Nat} (h : l.length = n) : seg (intsI l) 0 (n * 1) = intsI l := by
  rw [seg_intsI, List.drop_zero, List.take_of_length_le (by omega)]
theorem valL_bit0 {l : List Int} {v : Int} (h : IsB l 32 (Uw v)) : l.getD 0 0 = v % 2 := by
  rw [valL_get h.bits (by rw [h.len]; decide), h.val, Int.pow_zero]; unfold Uw; omega
theorem e32 : (2 : Int) ^ 32 = 4294967296 := by decide
theorem e64 : (2 : Int) ^ 64 = 18446744073709551616 := by decide

theorem RSum_c (a b c : Int) (ha : I32 a) (hb : I32 b) (hc : I32 c) : Con Try.prog f_r02_Sum [.s (.int .i32 a), .s (.int .i32 b), .s (.int .i32 c)] [] (.ret (.tup [.s (.int .i32 (lgSum a b c)), .s (.int .i32 (lgSumC a b c))]) []) := by
  intro K hK
  refine enter fn_r02_Sum rfl nt_r02_Sum rfl rfl (fun φ w0 β0 F => ?_)
  refine c_run tt_ok ctR_ok k_r02_Sum [] 60 (by kernel_rfl) ?_
  refine ⟨ha, ?_⟩
  rintro ⟨x, cx⟩ ⟨hx, hcx⟩
  refine ⟨hb, ?_⟩
  rintro ⟨y, cy⟩ ⟨hy, hcy⟩
  refine ⟨hc, ?_⟩
  rintro ⟨z, cz⟩ ⟨hz, hcz⟩
  simp only at hx hy hz hcx hcy hcz
  refine ⟨0, ⟨rfl, by decide, by simp [hz.len]⟩, .int .i64 (z.getD 0 0), rfl, intsI_at (by rw [hz.len]; decide), ?_⟩
  refine ⟨(x, y), ⟨⟨rfl, rfl, rfl, rfl, rfl⟩, hx.len, hy.len, by decide, hx.bits, hy.bits, hz.bits.get (by rw [hz.len]; decide)⟩, ?_⟩
  rintro ⟨s, cs, co⟩ ⟨⟨hsl, hsb, hsc⟩, hco, hsv⟩
  simp only at hsl hsb hsc hco hsv
  refine ⟨s, ⟨seg_whole hsl, hsb, hsl, by decide⟩, ?_⟩
  rw [hx.val, hy.val, valL_bit0 hz, e32] at hsv
  have hr := valL_range hsb
  rw [hsl, e32] at hr
  refine fin_k tt_ok (rs := rs_r02_Sum) rfl rfl hK [] (t2 ?_ ?_) rfl rfl rfl rfl rfl
  · unfold lgSum Wd Uw at *; omega
  · rw [wrapW]; show Wd co = _; unfold lgSumC Wd Uw at *; omega

theorem RDiff_c (a b c : Int) (ha : I32 a) (hb : I32 b) (hc : I32 c) : Con Try.prog f_r02_Diff [.s (.int .i32 a), .s (.int .i32 b), .s (.int .i32 c)] [] (.ret (.tup [.s (.int .i32 (lgDiff a b c)), .s (.int .i32 (lgDiffC a b c))]) []) := by
  intro K hK
  refine enter fn_r02_Diff rfl nt_r02_Diff rfl rfl (fun φ w0 β0 F => ?_)
  refine c_run tt_ok ctR_ok k_r02_Diff [] 60 (by kernel_rfl) ?_
  refine ⟨ha, ?_⟩
  rintro ⟨x, cx⟩ ⟨hx, hcx⟩
  refine ⟨hb, ?_⟩
  rintro ⟨y, cy⟩ ⟨hy, hcy⟩
  refine ⟨hc, ?_⟩
  rintro ⟨z, cz⟩ ⟨hz, hcz⟩
  simp only at hx hy hz hcx hcy hcz
  refine ⟨0, ⟨rfl, by decide, by simp [hz.len]⟩, .int .i64 (z.getD 0 0), rfl, intsI_at (by rw [hz.len]; decide), ?_⟩
  show WpC _ _ _ _ _
  rw [valL_bit0 hz]
  have hxl := hx.len
  have hyl := hy.len
  refine WpC.into (nilSlot 11 3 1 rfl) ?_
  refine c_loop (α := List Int × Nat × Int) (fun p => (p.1.length ≤ 32 ∧ Bits p.1 ∧ p.1.length ≤ p.2.1) ∧ (p.2.2 = 0 ∨ p.2.2 = 1) ∧ valL p.1 = valL (x.take p.1.length) - valL (y.take p.1.length) - c % 2 + 2 ^ p.1.length * p.2.2) (fun p => 32 - p.1.length)
    (fun p => [(8, .t (.s (.sl 0 0 32 cx)), none), (9, .t (.s (.sl 1 0 32 cy)), none), (10, .t (.s (.int .i64 p.2.2)), none), (11, .t (.s (.sl 2 0 p.1.length p.2.1)), none), (12, .t (.s (.int .i64 (p.1.length : Int))), none)])
    (fun p => [.own 3 1 cx (intsI x), .own 3 1 cy (intsI y), .own 3 1 p.2.1 (intsI p.1)]) ([], 0, c % 2) ⟨⟨by simp, by intro b hb; simp at hb, by simp⟩, show c % 2 = 0 ∨ c % 2 = 1 by omega, by simp [valL]; omega⟩ ?_ ?_
  · exact into [0, 1, 3] ⟨⟨_, rfl, rfl⟩, ⟨_, rfl, rfl⟩, ⟨_, rfl, rfl⟩, ⟨_, rfl, rfl⟩, ⟨_, rfl, rfl⟩, trivial⟩ ⟨_, rfl, rfl⟩ rfl rfl rfl rfl
  · rintro ⟨s, cs, q⟩ ⟨⟨hl, hsb, hsc⟩, hq, hv⟩
    simp only at hl hsb hsc hq hv
    dsimp only
    refine c_run' tt_ok ctR_ok k_r02_Diff [] 60 (by kernel_rfl) (by kernel_rfl) ?_
    refine ⟨fun h1 => ?_, fun h1 => ?_⟩
    · simp only [decide_eq_true_eq] at h1
      have gx := hx.bits.get (i := s.length) (by omega)
      have gy := hy.bits.get (i := s.length) (by omega)
      refine ⟨s.length, ⟨rfl, by omega, by simp; omega⟩, .int .i64 (x.getD s.length 0), rfl, intsI_at (by omega), ?_⟩
      refine ⟨s.length, ⟨rfl, by omega, by simp; omega⟩, .int .i64 (y.getD s.length 0), rfl, intsI_at (by omega), ?_⟩
      have es : IntKind.i64.wrap (IntKind.i64.wrap (x.getD s.length 0 - y.getD s.length 0) - q) = x.getD s.length 0 - y.getD s.length 0 - q := by simp only [IntKind.wrap_i64]; omega
      have tk : ∀ (u : List Int), s.length < u.length → u.take (s.length + 1) = u.take s.length ++ [u.getD s.length 0] := fun u hu => by
        rw [List.take_succ_eq_append_getElem hu]; simp [hu]
      have fin : ∀ (d q' : Int), (d = 0 ∨ d = 1) → d = x.getD s.length 0 - y.getD s.length 0 - q + 2 * q' →
          valL (s ++ [d]) = valL (x.take (s ++ [d]).length) - valL (y.take (s ++ [d]).length) - c % 2 + 2 ^ (s ++ [d]).length * q' := by
        intro d q' hd he
        rw [List.length_append, List.length_singleton, tk x (by omega), tk y (by omega), valL_append, valL_append, valL_append, Int.pow_succ]
        simp only [valL, List.length_take]
        rw [Nat.min_eq_left (by omega), Nat.min_eq_left (by omega)]
        generalize (2 : Int) ^ s.length = p at *
        have e1 : p * d = p * x.getD s.length 0 - p * y.getD s.length 0 - p * q + p * 2 * q' := by
          rw [he, Int.mul_add, Int.mul_sub, Int.mul_sub, Int.mul_assoc]
        simp only [Int.mul_zero, Int.add_zero]
        omega
      refine ⟨fun h2 => ?_, fun h2 => ?_⟩
      · simp only [es, decide_eq_true_eq] at h2
        have es2 : IntKind.i64.wrap (IntKind.i64.wrap (IntKind.i64.wrap (x.getD s.length 0 - y.getD s.length 0) - q) + 2) = x.getD s.length 0 - y.getD s.length 0 - q + 2 := by rw [es, IntKind.wrap_i64]; omega
        refine ⟨⟨rfl, by simp, Nat.le_refl _, one_u rfl, by simp only [maxLen]; omega, by omega⟩, fun c' hc1 hc2 => ?_⟩
        refine e_again (s ++ [x.getD s.length 0 - y.getD s.length 0 - q + 2], c', 1) ⟨⟨by simp; omega, hsb.append (fun b hb => by rw [List.mem_singleton.1 hb]; omega), by simpa using hc1⟩, .inr rfl, fin _ 1 (by omega) (by omega)⟩ (by simp; omega)
          (into [0, 1, 4] ⟨⟨_, rfl, rfl⟩, ⟨_, rfl, rfl⟩, ⟨_, rfl, rfl⟩, ⟨_, rfl, fvsl rfl (show s.length + 1 = (s ++ [_]).length by simp) rfl⟩, ⟨_, rfl, fvi (by rw [wrapSucc (by omega), List.length_append]; rfl)⟩, trivial⟩ ⟨_, rfl, ?_⟩ rfl rfl rfl rfl)
        rw [intsI_append, ← es2]; rfl
      · simp only [es, decide_eq_false_iff_not] at h2
        refine ⟨⟨rfl, by simp, Nat.le_refl _, one_u rfl, by simp only [maxLen]; omega, by omega⟩, fun c' hc1 hc2 => ?_⟩
        refine e_again (s ++ [x.getD s.length 0 - y.getD s.length 0 - q], c', 0) ⟨⟨by simp; omega, hsb.append (fun b hb => by rw [List.mem_singleton.1 hb]; omega), by simpa using hc1⟩, .inl rfl, fin _ 0 (by omega) (by omega)⟩ (by simp; omega)
          (into [0, 1, 4] ⟨⟨_, rfl, rfl⟩, ⟨_, rfl, rfl⟩, ⟨_, rfl, rfl⟩, ⟨_, rfl, fvsl rfl (show s.length + 1 = (s ++ [_]).length by simp) rfl⟩, ⟨_, rfl, fvi (by rw [wrapSucc (by omega), List.length_append]; rfl)⟩, trivial⟩ ⟨_, rfl, ?_⟩ rfl rfl rfl rfl)
        rw [intsI_append, ← es]; rfl
    · simp only [decide_eq_false_iff_not] at h1
      have hsn : s.length = 32 := by omega
      rw [hsn, List.take_of_length_le (by omega), List.take_of_length_le (by omega), hx.val, hy.val, e32] at hv
      have hr := valL_range hsb
      rw [hsn, e32] at hr
      refine ⟨s, ⟨?_, hsb, rfl, by omega⟩, ?_⟩
      · exact seg_whole rfl
      refine fin_k tt_ok (rs := rs_r02_Diff) rfl rfl hK [] (t2 ?_ ?_) rfl rfl rfl rfl rfl
      · unfold lgDiff Wd Uw at *; omega
      · rw [wrapW]; unfold lgDiffC Wd Uw at *; omega
end Go.Proofs

namespace Go.Proofs
open Go Go.Sx
set_option maxRecDepth 10000

theorem pow2_le {m n : Nat} (h : m ≤ n) : (2 : Int) ^ m ≤ 2 ^ n := by
  rw [pow_split h]
  have h3 := pow2_pos (n - m)
  have h4 := pow2_pos m
  have := Int.mul_le_mul_of_nonneg_left (show (1 : Int) ≤ 2 ^ (n - m) by omega) (show (0 : Int) ≤ 2 ^ m by omega)
  omega
theorem Dv0 (b : Int) : Dv 0 b = Uw b := by unfold Dv Uw; omega
theorem I32_0 : I32 0 := ⟨by decide, by decide⟩
theorem mul_pow {b : Int} {i : Nat} (h0 : 0 ≤ b) (h1 : b < 4294967296) (hi : i < 32) : 0 ≤ b * 2 ^ i ∧ b * 2 ^ i < 18446744073709551616 := by
  have hp := pow2_pos i
  have h2 : (2 : Int) ^ i ≤ 2147483648 := by
    have e : (2147483648 : Int) = 2 ^ 31 := by decide
    rw [e, pow_split (show i ≤ 31 by omega)]
    have h3 := pow2_pos (31 - i)
    have := Int.mul_le_mul_of_nonneg_left (show (1 : Int) ≤ 2 ^ (31 - i) by omega) (show (0 : Int) ≤ 2 ^ i by omega)
    omega
  have := mul_range h0 h1 (show (0 : Int) ≤ 2 ^ i by omega) (by omega)
  omega
theorem seg_off {l : List Int} {off n : Nat} : seg (intsI l) off (n * 1) = intsI ((l.drop off).take n) := by rw [Nat.mul_one, seg_intsI]
theorem lo_half {l : List Int} {v : Int} (h : IsB l 64 v) : Bits (l.take 32) ∧ (l.take 32).length = 32 ∧ Wd (valL (l.take 32)) = Wd v := by
  have hl := h.len
  refine ⟨h.bits.take _, by simp; omega, ?_⟩
  rw [valL_take h.bits (by omega), h.val, e32]; unfold Wd; omega
theorem hi_half {l : List Int} {v : Int} (h : IsB l 64 v) : Bits (l.drop 32) ∧ (l.drop 32).length = 32 ∧ valL (l.drop 32) = v / 4294967296 := by
  have hl := h.len
  refine ⟨h.bits.drop _, by simp; omega, ?_⟩
  rw [valL_drop h.bits (by omega), h.val, e32]

theorem RMul_c (a b c : Int) (ha : I32 a) (hb : I32 b) (hc : I32 c) : Con Try.prog f_r02_Mul [.s (.int .i32 a), .s (.int .i32 b), .s (.int .i32 c)] [] (.ret (.tup [.s (.int .i32 (lgMul a b c)), .s (.int .i32 (lgMulH a b c))]) []) := by
  intro K hK
  refine enter fn_r02_Mul rfl nt_r02_Mul rfl rfl (fun φ w0 β0 F => ?_)
  refine c_run tt_ok ctR_ok k_r02_Mul [] 60 (by kernel_rfl) ?_
  refine ⟨ha, ?_⟩
  rintro ⟨x, cx⟩ ⟨hx, hcx⟩
  refine ⟨⟨I32_0, hc⟩, ?_⟩
  rintro ⟨l0, cl0⟩ ⟨hl0, hcl0⟩
  simp only at hx hl0 hcx hcl0
  have hxl := hx.len
  show WpC _ _ _ _ _
  refine c_loop (α := List Int × Nat × Nat) (fun p => p.2.2 ≤ 32 ∧ 64 ≤ p.2.1 ∧ IsB p.1 64 (Uw c + valL (x.take p.2.2) * Uw b)) (fun p => 32 - p.2.2)
    (fun p => [(1, .t (.s (.int .i32 b)), none), (8, .t (.s (.sl 0 0 32 cx)), none), (9, .t (.s (.sl 1 0 64 p.2.1)), none), (10, .t (.s (.int .i64 (p.2.2 : Int))), none)])
    (fun p => [.own 3 1 cx (intsI x), .own 3 1 p.2.1 (intsI p.1)]) (l0, cl0, 0) ⟨by simp, hcl0, by have h := hl0; rw [Dv0] at h; simpa [valL] using h⟩ ?_ ?_
  · exact into [0, 1] ⟨⟨_, rfl, rfl⟩, ⟨_, rfl, rfl⟩, ⟨_, rfl, rfl⟩, ⟨_, rfl, rfl⟩, trivial⟩ ⟨_, rfl, rfl⟩ rfl rfl rfl rfl
  · rintro ⟨l, cl, i⟩ ⟨hi, hcl, hl⟩
    simp only at hi hcl hl
    dsimp only
    have hrx : ∀ k, k ≤ 32 → 0 ≤ valL (x.take k) ∧ valL (x.take k) < 4294967296 := fun k hk => by
      have h1 := valL_range (hx.bits.take k)
      have h2 := pow2_le hk
      rw [List.length_take, Nat.min_eq_left (by omega)] at h1
      rw [e32] at h2
      omega
    refine c_run' tt_ok ctR_ok k_r02_Mul [] 60 (by kernel_rfl) (by kernel_rfl) ?_
    refine ⟨fun h1 => ?_, fun h1 => ?_⟩
    · simp only [decide_eq_true_eq] at h1
      have hi32 : i < 32 := by omega
      have gx := hx.bits.get (i := i) (by omega)
      have tk : x.take (i + 1) = x.take i ++ [x.getD i 0] := by
        rw [List.take_succ_eq_append_getElem (by omega)]; simp [show i < x.length by omega]
      have tv : valL (x.take (i + 1)) = valL (x.take i) + 2 ^ i * x.getD i 0 := by
        rw [tk, valL_append, List.length_take, Nat.min_eq_left (by omega)]; simp [valL]
      refine ⟨i, ⟨rfl, by omega, by simp; omega⟩, .int .i64 (x.getD i 0), rfl, intsI_at (by omega), ?_⟩
      refine ⟨fun h2 => ?_, fun h2 => ?_⟩
      · have h2' : x.getD i 0 = 1 := by simpa using h2
        refine ⟨⟨I32_0, hb⟩, ?_⟩
        rintro ⟨d, cd⟩ ⟨hd, hcd⟩
        simp only at hd hcd
        rw [Dv0] at hd
        refine ⟨(d, i, Uw b), ⟨⟨rfl, rfl, rfl, rfl⟩, hd, show i ≤ 64 by omega⟩, ?_⟩
        intro r hr
        have hmp := mul_pow (Uw_lo b) (Uw_hi b) hi32
        rw [Int.emod_eq_of_lt hmp.1 hmp.2] at hr
        refine ⟨(l, r), ⟨⟨rfl, rfl, rfl, rfl, rfl⟩, hl.len, hr.len, by decide, hl.bits, hr.bits, .inl rfl⟩, ?_⟩
        rintro ⟨s, cs, co⟩ ⟨⟨hsl, hsb, hsc⟩, hco, hsv⟩
        simp only at hsl hsb hsc hco hsv
        rw [hl.val, hr.val, e64] at hsv
        rw [h2', Int.mul_one] at tv
        have hrs := valL_range hsb
        rw [hsl, e64] at hrs
        have hbd := mul_range (hrx (i + 1) (by omega)).1 (hrx (i + 1) (by omega)).2 (Uw_lo b) (Uw_hi b)
        have hcb := Uw_hi c
        have hcb' := Uw_lo c
        have e1 : valL (x.take (i + 1)) * Uw b = valL (x.take i) * Uw b + Uw b * 2 ^ i := by rw [tv, Int.add_mul, Int.mul_comm (2 ^ i)]
        refine e_again (s, cs, i + 1) ⟨show i + 1 ≤ 32 by omega, hsc, hsl, hsb, ?_⟩ (show 32 - (i + 1) < 32 - i by omega) (into [0, 4] ⟨⟨_, rfl, rfl⟩, ⟨_, rfl, rfl⟩, ⟨_, rfl, rfl⟩, ⟨_, rfl, fvi (wrapSucc (by omega))⟩, trivial⟩ ⟨_, rfl, rfl⟩ rfl rfl rfl rfl)
        show valL s = Uw c + valL (x.take (i + 1)) * Uw b
        rcases hco with rfl | rfl <;> omega
      · have h2' : x.getD i 0 = 0 := by
          have : ¬ x.getD i 0 = 1 := fun e => by rw [e] at h2; exact absurd h2 (by decide)
          omega
        rw [h2', Int.mul_zero, Int.add_zero] at tv
        refine e_again (l, cl, i + 1) ⟨show i + 1 ≤ 32 by omega, hcl, hl.len, hl.bits, ?_⟩ (show 32 - (i + 1) < 32 - i by omega) (into [0, 1] ⟨⟨_, rfl, rfl⟩, ⟨_, rfl, rfl⟩, ⟨_, rfl, rfl⟩, ⟨_, rfl, fvi (wrapSucc (by omega))⟩, trivial⟩ ⟨_, rfl, rfl⟩ rfl rfl rfl rfl)
        show valL l = Uw c + valL (x.take (i + 1)) * Uw b
        rw [tv]; exact hl.val
    · simp only [decide_eq_false_iff_not] at h1
      have hi32 : i = 32 := by omega
      subst hi32
      rw [List.take_of_length_le (by omega), hx.val] at hl
      have hlo := lo_half hl
      have hhi := hi_half hl
      refine ⟨0, 32, ⟨_, _, rfl, rfl, rfl, rfl⟩, ⟨by decide, by omega⟩, fun off' ho => ?_⟩
      have ho' : off' = 0 := (ho (by omega)).trans (by simp)
      subst ho'
      refine ⟨l.take 32, ⟨by rw [seg_off]; rfl, hlo.1, hlo.2.1, by decide⟩, ?_⟩
      refine ⟨32, 64, ⟨_, _, rfl, rfl, rfl, rfl⟩, ⟨by decide, by omega⟩, fun off2 ho2 => ?_⟩
      rcases Nat.lt_or_ge 32 cl with hc32 | hc32
      · have ho' : off2 = 32 := (ho2 (by omega)).trans (by simp)
        subst ho'
        refine ⟨l.drop 32, ⟨by rw [seg_off, List.take_of_length_le (by rw [hhi.2.1]; decide)], hhi.1, hhi.2.1, by decide⟩, ?_⟩
        have hcomm : Uw c + Uw a * Uw b = Uw a * Uw b + Uw c := Int.add_comm _ _
        refine fin_k tt_ok (rs := rs_r02_Mul) rfl rfl hK [] (t2 ?_ ?_) rfl rfl rfl rfl rfl
        · rw [hlo.2.2, hcomm]; rfl
        · rw [hhi.2.2, hcomm]; rfl
      · omega

theorem RShl_c (hi lo n : Int) (h1 : I32 hi) (h2 : I32 lo) (h3 : I32 n) : Con Try.prog f_r02_Shl [.s (.int .i32 hi), .s (.int .i32 lo), .s (.int .i32 n)] [] (.ret (.tup [.s (.int .i32 (lgShlH hi lo n)), .s (.int .i32 (lgShl hi lo n))]) []) := by
  intro K hK
  refine enter fn_r02_Shl rfl nt_r02_Shl rfl rfl (fun φ w0 β0 F => ?_)
  refine c_run tt_ok ctR_ok k_r02_Shl [] 60 (by kernel_rfl) ?_
  refine ⟨h3, fun h => ?_, fun h => ?_⟩
  · simp only [ge_iff_le, decide_eq_true_eq] at h
    have e : shlV (Dv hi lo) n = 0 := by
      unfold shlV
      rw [pow_split (show 64 ≤ (Uw n).toNat by omega), e64, ← Int.mul_assoc, Int.mul_comm (Dv hi lo), Int.mul_assoc, Int.mul_emod_right]
    refine fin_k tt_ok (rs := rs_r02_Shl) rfl rfl hK [] (t2 ?_ ?_) rfl rfl rfl rfl rfl
    · unfold lgShlH; rw [e]; rfl
    · unfold lgShl; rw [e]; rfl
  · simp only [ge_iff_le, decide_eq_false_iff_not] at h
    have hn : n = ((Uw n).toNat : Int) ∧ (Uw n).toNat < 64 := by unfold Uw I32 at *; omega
    refine ⟨⟨h1, h2⟩, ?_⟩
    rintro ⟨d, cd⟩ ⟨hd, hcd⟩
    simp only at hd hcd
    refine ⟨(d, (Uw n).toNat, Dv hi lo), ⟨⟨rfl, rfl, rfl, by rw [wrap64 (by omega) (by omega)]; exact hn.1⟩, hd, show (Uw n).toNat ≤ 64 by omega⟩, ?_⟩
    intro r hr
    have hlo := lo_half hr
    have hhi := hi_half hr
    refine ⟨32, 64, ⟨_, _, rfl, rfl, rfl, rfl⟩, ⟨by decide, by decide⟩, fun off2 ho2 => ?_⟩
    have ho' : off2 = 32 := (ho2 (by decide)).trans (by simp)
    subst ho'
    refine ⟨r.drop 32, ⟨by rw [seg_off, List.take_of_length_le (by rw [hhi.2.1]; decide)], hhi.1, hhi.2.1, by decide⟩, ?_⟩
    refine ⟨0, 32, ⟨_, _, rfl, rfl, rfl, rfl⟩, ⟨by decide, by decide⟩, fun off' ho => ?_⟩
    have ho' : off' = 0 := (ho (by decide)).trans (by simp)
    subst ho'
    refine ⟨r.take 32, ⟨by rw [seg_off]; rfl, hlo.1, hlo.2.1, by decide⟩, ?_⟩
    refine fin_k tt_ok (rs := rs_r02_Shl) rfl rfl hK [] (t2 ?_ ?_) rfl rfl rfl rfl rfl
    · rw [hhi.2.2]; rfl
    · rw [hlo.2.2]; rfl
theorem RShr_c (hi lo n : Int) (h1 : I32 hi) (h2 : I32 lo) (h3 : I32 n) : Con Try.prog f_r02_Shr [.s (.int .i32 hi), .s (.int .i32 lo), .s (.int .i32 n)] [] (.ret (.tup [.s (.int .i32 (lgShrH hi lo n)), .s (.int .i32 (lgShr hi lo n))]) []) := by
  intro K hK
  refine enter fn_r02_Shr rfl nt_r02_Shr rfl rfl (fun φ w0 β0 F => ?_)
  refine c_run tt_ok ctR_ok k_r02_Shr [] 60 (by kernel_rfl) ?_
  refine ⟨h3, fun h => ?_, fun h => ?_⟩
  · simp only [ge_iff_le, decide_eq_true_eq] at h
    have e : shrV (Dv hi lo) n = 0 := by
      unfold shrV
      refine Int.ediv_eq_zero_of_lt (Dv_lo _ _) (Int.lt_of_lt_of_le (Dv_hi _ _) ?_)
      rw [pow_split (show 64 ≤ (Uw n).toNat by omega), e64]
      have h3 := pow2_pos ((Uw n).toNat - 64)
      have := Int.mul_le_mul_of_nonneg_left (show (1 : Int) ≤ 2 ^ ((Uw n).toNat - 64) by omega) (show (0 : Int) ≤ 18446744073709551616 by decide)
      omega
    refine fin_k tt_ok (rs := rs_r02_Shr) rfl rfl hK [] (t2 ?_ ?_) rfl rfl rfl rfl rfl
    · unfold lgShrH; rw [e]; rfl
    · unfold lgShr; rw [e]; rfl
  · simp only [ge_iff_le, decide_eq_false_iff_not] at h
    have hn : n = ((Uw n).toNat : Int) ∧ (Uw n).toNat < 64 := by unfold Uw I32 at *; omega
    refine ⟨⟨h1, h2⟩, ?_⟩
    rintro ⟨d, cd⟩ ⟨hd, hcd⟩
    simp only at hd hcd
    refine ⟨(d, (Uw n).toNat, Dv hi lo), ⟨⟨rfl, rfl, rfl, by rw [wrap64 (by omega) (by omega)]; exact hn.1⟩, hd, show (Uw n).toNat ≤ 64 by omega⟩, ?_⟩
    intro r hr
    have hlo := lo_half hr
    have hhi := hi_half hr
    refine ⟨32, 64, ⟨_, _, rfl, rfl, rfl, rfl⟩, ⟨by decide, by decide⟩, fun off2 ho2 => ?_⟩
    have ho' : off2 = 32 := (ho2 (by decide)).trans (by simp)
    subst ho'
    refine ⟨r.drop 32, ⟨by rw [seg_off, List.take_of_length_le (by rw [hhi.2.1]; decide)], hhi.1, hhi.2.1, by decide⟩, ?_⟩
    refine ⟨0, 32, ⟨_, _, rfl, rfl, rfl, rfl⟩, ⟨by decide, by decide⟩, fun off' ho => ?_⟩
    have ho' : off' = 0 := (ho (by decide)).trans (by simp)
    subst ho'
    refine ⟨r.take 32, ⟨by rw [seg_off]; rfl, hlo.1, hlo.2.1, by decide⟩, ?_⟩
    refine fin_k tt_ok (rs := rs_r02_Shr) rfl rfl hK [] (t2 ?_ ?_) rfl rfl rfl rfl rfl
    · rw [hhi.2.2]; rfl
    · rw [hlo.2.2]; rfl
end Go.Proofs

namespace Go.Proofs
open Go Go.Sx
set_option maxRecDepth 10000

theorem valL_set {l : List Int} {i : Nat} (hi : i < l.length) (h0 : l.getD i 0 = 0) : valL (l.set i 1) = valL l + 2 ^ i := by
  have e : l = l.take i ++ (0 :: l.drop (i + 1)) := by
    have h := List.take_append_drop i l
    have hd : l.drop i = l.getD i 0 :: l.drop (i + 1) := by rw [List.drop_eq_getElem_cons hi]; simp [hi]
    rw [hd, h0] at h; exact h.symm
  have e2 : l.set i 1 = l.take i ++ (1 :: l.drop (i + 1)) := by
    rw [List.set_eq_take_append_cons_drop, if_pos hi]
  have e3 : valL l = valL (l.take i ++ (0 :: l.drop (i + 1))) := congrArg valL e
  rw [e2, e3, valL_append, valL_append, List.length_take, Nat.min_eq_left (by omega)]
  simp only [valL, Int.mul_add, Int.mul_zero, Int.mul_one]; omega
theorem setV_ints {l : List Int} {i : Nat} (v : Int) (hi : i < l.length) : setV (intsI l) i [Value.int .i64 v] = intsI (l.set i v) := by
  rw [List.set_eq_take_append_cons_drop, if_pos hi]
  simp [setV, intsI, List.map_take, List.map_drop]

/-- One step of the division, bit by bit. -/
theorem div_step {A d b : Int} (hd : 0 < d) (hb : b = 0 ∨ b = 1) (hA : 0 ≤ A) :
    (2 * (A % d) + b ≥ d → (2 * A + b) / d = 2 * (A / d) + 1 ∧ (2 * A + b) % d = 2 * (A % d) + b - d) ∧
    (¬ 2 * (A % d) + b ≥ d → (2 * A + b) / d = 2 * (A / d) ∧ (2 * A + b) % d = 2 * (A % d) + b) := by
  have h1 := Int.emod_nonneg A (show d ≠ 0 by omega)
  have h2 := Int.emod_lt_of_pos A hd
  have h3 := Int.mul_ediv_add_emod A d
  refine ⟨fun h => ?_, fun h => ?_⟩
  · have := (Int.ediv_emod_unique (a := 2 * A + b) (b := d) (q := 2 * (A / d) + 1) (r := 2 * (A % d) + b - d) hd).2 ⟨by
      rw [Int.mul_add, Int.mul_one, Int.mul_left_comm]
      omega, by omega, by omega⟩
    exact this
  · have := (Int.ediv_emod_unique (a := 2 * A + b) (b := d) (q := 2 * (A / d)) (r := 2 * (A % d) + b) hd).2 ⟨by
      rw [Int.mul_left_comm]
      omega, by omega, by omega⟩
    exact this

theorem RDiv_c (hi lo d : Int) (h1 : I32 hi) (h2 : I32 lo) (h3 : I32 d) : Con Try.prog f_r02_Div [.s (.int .i32 hi), .s (.int .i32 lo), .s (.int .i32 d)] []
    (.br (lgDivO hi d) (.ret (.tup [.s (.int .i32 0), .s (.int .i32 0), .s (.bool true)]) []) (.ret (.tup [.s (.int .i32 (lgDiv hi lo d)), .s (.int .i32 (lgRem hi lo d)), .s (.bool false)]) [])) := by
  intro K ⟨hK1, hK2⟩
  refine enter fn_r02_Div rfl nt_r02_Div rfl rfl (fun φ w0 β0 F => ?_)
  refine c_run tt_ok ctR_ok k_r02_Div [] 60 (by kernel_rfl) ?_
  refine ⟨h1, h3, fun h => ?_, fun h => ?_⟩
  · exact fin_k tt_ok (rs := rs_r02_Div) rfl rfl (hK1 h) [] rfl rfl rfl rfl rfl rfl
  have hK := hK2 h
  simp only [ge_iff_le, decide_eq_false_iff_not] at h
  have hd0 : 0 < Uw d := by have := Uw_lo hi; omega
  refine ⟨⟨h1, h2⟩, ?_⟩
  rintro ⟨l, cl⟩ ⟨hl, hcl⟩
  simp only at hl hcl
  have hll := hl.len
  refine ⟨64, ⟨rfl, rfl, by decide, by decide⟩, ?_⟩
  show WpC _ _ _ _ _
  have hz0 := Dv_lo hi lo
  have hz1 := Dv_hi hi lo
  generalize hz : Dv hi lo = z at *
  have hdiv0 : ∀ j : Nat, 0 ≤ z / 2 ^ j := fun j => Int.ediv_nonneg hz0 (by have := pow2_pos j; omega)
  refine c_loop (α := Nat × List Int) (fun p => p.1 ≤ 64 ∧ p.2.length = 64 ∧ Bits p.2 ∧ (∀ i, i < p.1 → p.2.getD i 0 = 0) ∧ valL p.2 = 2 ^ p.1 * (z / 2 ^ p.1 / Uw d)) (fun p => p.1)
    (fun p => [(2, .t (.s (.int .i32 d)), none), (9, .t (.s (.sl 0 0 64 cl)), none), (10, .t (.s (.sl 1 0 64 64)), none), (11, .t (.s (.int .i64 (z / 2 ^ p.1 % Uw d))), none), (12, .t (.s (.int .i64 ((p.1 : Int) - 1))), none)])
    (fun p => [.own 3 1 cl (intsI l), .own 3 1 64 (intsI p.2)]) (64, List.replicate 64 0) ⟨by simp, by simp, Bits.zeros 64, fun i hi => by show (List.replicate 64 (0 : Int)).getD i 0 = 0; rw [List.getD_eq_getElem?_getD, List.getElem?_replicate]; split <;> rfl, ?_⟩ ?_ ?_
  · rw [valL_zeros, e64, Int.ediv_eq_zero_of_lt hz0 hz1, Int.zero_ediv]; rfl
  · refine into [0, 1] ⟨⟨_, rfl, rfl⟩, ⟨_, rfl, rfl⟩, ⟨_, rfl, rfl⟩, ⟨_, rfl, fvi ?_⟩, ⟨_, rfl, fvi (by decide)⟩, trivial⟩ ⟨_, rfl, rfl⟩ rfl rfl rfl rfl
    show (0 : Int) = z / 2 ^ 64 % Uw d
    rw [e64, Int.ediv_eq_zero_of_lt hz0 hz1, Int.zero_emod]
  · rintro ⟨j, q⟩ ⟨hj, hq, hqb, hqz, hqv⟩
    simp only at hj hq hqb hqz hqv
    dsimp only
    refine c_run' tt_ok ctR_ok k_r02_Div [] 60 (by kernel_rfl) (by kernel_rfl) ?_
    refine ⟨fun h4 => ?_, fun h4 => ?_⟩
    · simp only [ge_iff_le, decide_eq_true_eq] at h4
      obtain ⟨i, rfl⟩ : ∃ i, j = i + 1 := ⟨j - 1, by omega⟩
      have gl := hl.bits.get (i := i) (by omega)
      have hgv : l.getD i 0 = z / 2 ^ i % 2 := by rw [valL_get hl.bits (by omega), hl.val]
      have hA : z / 2 ^ i = 2 * (z / 2 ^ (i + 1)) + l.getD i 0 := by
        have e : z / 2 ^ (i + 1) = z / 2 ^ i / 2 := by rw [Int.pow_succ, Int.ediv_ediv_of_nonneg (by have := pow2_pos i; omega)]
        rw [e, hgv]; omega
      have hst := div_step (A := z / 2 ^ (i + 1)) hd0 gl (hdiv0 _)
      rw [← hA] at hst
      have hr0 := Int.emod_nonneg (z / 2 ^ (i + 1)) (show Uw d ≠ 0 by omega)
      have hr1 := Int.emod_lt_of_pos (z / 2 ^ (i + 1)) hd0
      have hdu := Uw_hi d
      refine ⟨i, ⟨by omega, by omega, by simp; omega⟩, .int .i64 (l.getD i 0), rfl, intsI_at (by omega), h3, ?_⟩
      generalize l.getD i 0 = b at *
      generalize hR : z / 2 ^ (i + 1) % Uw d = R at *
      have ew : IntKind.i64.wrap (IntKind.i64.wrap (2 * R) + b) = 2 * R + b := by simp only [IntKind.wrap_i64]; omega
      have ei : IntKind.i64.wrap (((i + 1 : Nat) : Int) - 1 - 1) = (i : Int) - 1 := by simp only [IntKind.wrap_i64]; omega
      refine ⟨fun h5 => ?_, fun h5 => ?_⟩
      · simp only [ew, ge_iff_le, decide_eq_true_eq] at h5
        obtain ⟨hq1, hr2⟩ := hst.1 h5
        refine ⟨h3, ?_⟩
        refine ⟨i, ⟨by omega, by omega, by simp; omega⟩, by show 0 + i * (0 + 1) + 1 ≤ _; simp; omega, ?_⟩
        refine e_again (i, q.set i 1) ⟨show i ≤ 64 by omega, by simp [hq], ?_, ?_, ?_⟩ (show i < i + 1 by omega)
          (into [0, 1] ⟨⟨_, rfl, rfl⟩, ⟨_, rfl, rfl⟩, ⟨_, rfl, rfl⟩, ⟨_, rfl, fvi ?_⟩, ⟨_, rfl, fvi ei⟩, trivial⟩ ⟨_, rfl, ?_⟩ rfl rfl rfl rfl)
        · intro b' hb'
          rcases List.mem_or_eq_of_mem_set hb' with h' | h'
          · exact hqb b' h'
          · exact .inr h'
        · intro k hk
          show (q.set i 1).getD k 0 = 0
          have hk' : k < i := hk
          have := hqz k (by omega)
          simp only [List.getD_eq_getElem?_getD] at this ⊢
          rw [List.getElem?_set_ne (by omega)]; exact this
        · show valL (q.set i 1) = 2 ^ i * (z / 2 ^ i / Uw d)
          rw [valL_set (by omega) (hqz i (by omega)), hqv, hq1, Int.pow_succ, Int.mul_add, Int.mul_one, Int.mul_assoc]
        · show IntKind.i64.wrap (IntKind.i64.wrap (IntKind.i64.wrap (2 * R) + b) - Uw d) = z / 2 ^ i % Uw d
          rw [ew, hr2]; simp only [IntKind.wrap_i64]; omega
        · show [Ch.own 3 1 cl (intsI l), Ch.own 3 1 64 (setV (intsI q) (0 + i * (0 + 1)) [Value.int .i64 1])] = _
          rw [show 0 + i * (0 + 1) = i by omega, setV_ints 1 (by omega)]; rfl
      · simp only [ew, ge_iff_le, decide_eq_false_iff_not] at h5
        obtain ⟨hq1, hr2⟩ := hst.2 h5
        refine e_again (i, q) ⟨show i ≤ 64 by omega, hq, hqb, fun k hk => hqz k (Nat.lt_succ_of_lt hk), ?_⟩ (show i < i + 1 by omega)
          (into [0, 1] ⟨⟨_, rfl, rfl⟩, ⟨_, rfl, rfl⟩, ⟨_, rfl, rfl⟩, ⟨_, rfl, fvi ?_⟩, ⟨_, rfl, fvi ei⟩, trivial⟩ ⟨_, rfl, rfl⟩ rfl rfl rfl rfl)
        · show valL q = 2 ^ i * (z / 2 ^ i / Uw d)
          rw [hqv, hq1, Int.pow_succ, Int.mul_assoc]
        · show IntKind.i64.wrap (IntKind.i64.wrap (2 * R) + b) = z / 2 ^ i % Uw d
          rw [ew, hr2]
    · simp only [ge_iff_le, decide_eq_false_iff_not] at h4
      have hj0 : j = 0 := by omega
      subst hj0
      simp only [Int.pow_zero, Int.ediv_one, Int.one_mul] at hqv
      have hQ : IsB q 64 (z / Uw d) := ⟨hq, hqb, hqv⟩
      have hlo := lo_half hQ
      refine ⟨0, 32, ⟨_, _, rfl, rfl, rfl, rfl⟩, ⟨by decide, by decide⟩, fun off' ho => ?_⟩
      have ho' : off' = 0 := (ho (by decide)).trans (by simp)
      subst ho'
      refine ⟨q.take 32, ⟨by rw [seg_off]; rfl, hlo.1, hlo.2.1, by decide⟩, ?_⟩
      simp only [Int.pow_zero, Int.ediv_one]
      have hr0 := Int.emod_nonneg z (show Uw d ≠ 0 by omega)
      have hr1 := Int.emod_lt_of_pos z hd0
      refine ⟨⟨hr0, Int.lt_trans hr1 (Uw_hi d)⟩, ?_⟩
      refine fin_k tt_ok (rs := rs_r02_Div) rfl rfl hK [] (t3b ?_ ?_ rfl) rfl rfl rfl rfl rfl
      · rw [hlo.2.2, ← hz]; rfl
      · rw [← hz]; rfl
end Go.Proofs

namespace Go.Proofs
open Go Go.Sx
set_option maxRecDepth 10000

theorem wrap_c (s : Int) (h0 : -1099511627776 ≤ s) (h1 : s ≤ 1099511627776) : Con Try.prog f_r02_wrap [.s (.int .i64 s)] [] (.ret (.tup [.s (.int .i32 (Wd s)), .s (.bool (s != Wd s))]) []) := by
  intro K hK
  refine enter fn_r02_wrap rfl nt_r02_wrap rfl rfl (fun φ w0 β0 F => ?_)
  refine c_run tt_ok (ct := []) trivial k_r02_wrap [] 60 (by kernel_rfl) ?_
  show WpC _ _ _ _ _
  have ho : (bif decide (s < -2147483648) then true else decide (s ≥ 2147483648)) = (s != Wd s) := by
    by_cases a : s < -2147483648
    · rw [decide_eq_true a]
      have : s ≠ Wd s := by unfold Wd; omega
      simp [this]
    · rw [decide_eq_false a]
      by_cases b : s ≥ 2147483648
      · rw [decide_eq_true b]
        have : s ≠ Wd s := by unfold Wd; omega
        simp [this]
      · rw [decide_eq_false b]
        have : s = Wd s := by unfold Wd; omega
        simp [← this]
  refine c_loop (α := Int) (fun x => Wd x = Wd s ∧ -1099511627776 ≤ x ∧ x ≤ 1099511627776) (fun x => (x + 2199023255552).toNat)
    (fun x => [(0, .t (.s (.int .i64 x)), none), (4, .t (.s (.bool (s != Wd s))), none)]) (fun _ => []) s ⟨rfl, h0, h1⟩ ?_ ?_
  · exact into [] ⟨⟨_, rfl, rfl⟩, ⟨_, rfl, fvb ho⟩, trivial⟩ ⟨_, rfl, rfl⟩ rfl rfl rfl rfl
  · rintro x ⟨hx, hx0, hx1⟩
    refine c_run' tt_ok (ct := []) trivial k_r02_wrap [] 60 (by kernel_rfl) (by kernel_rfl) ?_
    refine ⟨fun h2 => ?_, fun h2 => ?_⟩
    · simp only [ge_iff_le, decide_eq_true_eq] at h2
      refine e_again (x - 4294967296) ⟨by rw [← hx]; unfold Wd; omega, by omega, by omega⟩ (by omega) (into [] ⟨⟨_, rfl, fvi (by simp only [IntKind.wrap_i64]; omega)⟩, ⟨_, rfl, rfl⟩, trivial⟩ ⟨_, rfl, rfl⟩ rfl rfl rfl rfl)
    · simp only [ge_iff_le, decide_eq_false_iff_not] at h2
      show WpC _ _ _ _ _
      refine c_loop (α := Int) (fun x => Wd x = Wd s ∧ -1099511627776 ≤ x ∧ x < 2147483648) (fun x => (2147483648 - x).toNat)
        (fun x => [(0, .t (.s (.int .i64 x)), none), (4, .t (.s (.bool (s != Wd s))), none)]) (fun _ => []) x ⟨hx, hx0, by omega⟩ ?_ ?_
      · exact into [] ⟨⟨_, rfl, rfl⟩, ⟨_, rfl, rfl⟩, trivial⟩ ⟨_, rfl, rfl⟩ rfl rfl rfl rfl
      · rintro y ⟨hy, hy0, hy1⟩
        refine c_run' tt_ok (ct := []) trivial k_r02_wrap [] 60 (by kernel_rfl) (by kernel_rfl) ?_
        refine ⟨fun h3 => ?_, fun h3 => ?_⟩
        · simp only [decide_eq_true_eq] at h3
          refine e_again (y + 4294967296) ⟨by rw [← hy]; unfold Wd; omega, by omega, by omega⟩ (by omega) (into [] ⟨⟨_, rfl, fvi (by simp only [IntKind.wrap_i64]; omega)⟩, ⟨_, rfl, rfl⟩, trivial⟩ ⟨_, rfl, rfl⟩ rfl rfl rfl rfl)
        · simp only [decide_eq_false_iff_not] at h3
          refine fin_k tt_ok (rs := rs_r02_wrap) rfl rfl hK [] (t2b ?_ rfl) rfl rfl rfl rfl rfl
          rw [wrapW, ← hy]
noncomputable abbrev eWrap : Ent := .st (conS (P := Try.prog) (f := f_r02_wrap) fun cargs σ0 => match cargs, σ0 with
  | [.s (.int .i64 s)], [] => some ⟨.ask (-1099511627776 ≤ s ∧ s ≤ 1099511627776) (.ret (.tup [.s (.int .i32 (Wd s)), .s (.bool (s != Wd s))]) []), fun K h => wrap_c s h.1.1 h.1.2 K h.2⟩
  | _, _ => none)
noncomputable abbrev ctX : CT := [(f_r02_bits, eBits), (f_r02_wrap, eWrap)]
theorem ctX_ok : CTok Try.prog ctX := ⟨con_ok cal_r02_bits _, con_ok cal_r02_wrap _, trivial⟩

theorem RAdd_c (a b c : Int) (ha : I32 a) (hb : I32 b) (hc : I32 c) : Con Try.prog f_r02_Add [.s (.int .i32 a), .s (.int .i32 b), .s (.int .i32 c)] [] (.ret (.tup [.s (.int .i32 (lgAdd a b c)), .s (.bool (lgAddO a b c))]) []) := by
  intro K hK
  refine enter fn_r02_Add rfl nt_r02_Add rfl rfl (fun φ w0 β0 F => ?_)
  refine c_run tt_ok ctX_ok k_r02_Add [] 60 (by kernel_rfl) ?_
  refine ⟨hc, ?_⟩
  rintro ⟨z, cz⟩ ⟨hz, hcz⟩
  simp only at hz hcz
  refine ⟨0, ⟨rfl, by decide, by simp [hz.len]⟩, .int .i64 (z.getD 0 0), rfl, intsI_at (by rw [hz.len]; decide), ?_⟩
  have e : IntKind.i64.wrap (IntKind.i64.wrap (IntKind.i64.wrap a + IntKind.i64.wrap b) + z.getD 0 0) = a + b + c % 2 := by
    rw [valL_bit0 hz]; unfold I32 at ha hb; simp only [IntKind.wrap_i64]; omega
  refine ⟨by rw [e]; unfold I32 at ha hb; omega, ?_⟩
  exact fin_k tt_ok (rs := rs_r02_Add) rfl rfl hK [] (t2b (by rw [e]; rfl) (by rw [e]; rfl)) rfl rfl rfl rfl rfl
theorem RSub_c (a b c : Int) (ha : I32 a) (hb : I32 b) (hc : I32 c) : Con Try.prog f_r02_Sub [.s (.int .i32 a), .s (.int .i32 b), .s (.int .i32 c)] [] (.ret (.tup [.s (.int .i32 (lgSub a b c)), .s (.bool (lgSubO a b c))]) []) := by
  intro K hK
  refine enter fn_r02_Sub rfl nt_r02_Sub rfl rfl (fun φ w0 β0 F => ?_)
  refine c_run tt_ok ctX_ok k_r02_Sub [] 60 (by kernel_rfl) ?_
  refine ⟨hc, ?_⟩
  rintro ⟨z, cz⟩ ⟨hz, hcz⟩
  simp only at hz hcz
  refine ⟨0, ⟨rfl, by decide, by simp [hz.len]⟩, .int .i64 (z.getD 0 0), rfl, intsI_at (by rw [hz.len]; decide), ?_⟩
  have e : IntKind.i64.wrap (IntKind.i64.wrap (IntKind.i64.wrap a - IntKind.i64.wrap b) - z.getD 0 0) = a - b - c % 2 := by
    rw [valL_bit0 hz]; unfold I32 at ha hb; simp only [IntKind.wrap_i64]; omega
  refine ⟨by rw [e]; unfold I32 at ha hb; omega, ?_⟩
  exact fin_k tt_ok (rs := rs_r02_Sub) rfl rfl hK [] (t2b (by rw [e]; rfl) (by rw [e]; rfl)) rfl rfl rfl rfl rfl
theorem RXdble_c (v : Int) : Con Try.prog f_r02_Xdble [.s (.int .i32 v)] [] (.ret (.tup [.s (.int .i32 v), .s (.int .i32 (lgSign v))]) []) := by
  intro K hK
  refine enter fn_r02_Xdble rfl nt_r02_Xdble rfl rfl (fun φ w0 β0 F => ?_)
  refine c_run tt_ok (ct := []) trivial k_r02_Xdble [] 60 (by kernel_rfl) ?_
  refine ⟨fun h => ?_, fun h => ?_⟩
  · simp only [decide_eq_true_eq] at h
    exact fin_k tt_ok (rs := rs_r02_Xdble) rfl rfl hK [] (t2 rfl (by unfold lgSign; rw [if_pos h])) rfl rfl rfl rfl rfl
  · simp only [decide_eq_false_iff_not] at h
    exact fin_k tt_ok (rs := rs_r02_Xdble) rfl rfl hK [] (t2 rfl (by unfold lgSign; rw [if_neg h])) rfl rfl rfl rfl rfl
noncomputable abbrev eRXdble : Ent := .st (conS (P := Try.prog) (f := f_r02_Xdble) fun cargs σ0 => match cargs, σ0 with
  | [.s (.int .i32 v)], [] => some ⟨_, RXdble_c v⟩
  | _, _ => none)
noncomputable abbrev eXdble : Ent := .st (conS (P := Try.prog) (f := f_long_Xdble) fun cargs σ0 => match cargs, σ0 with
  | [.s (.int .i32 v)], [] => some ⟨_, Xdble_c v⟩
  | _, _ => none)
noncomputable abbrev ctRX : CT := [(f_r02_Xdble, eRXdble)]
theorem ctRX_ok : CTok Try.prog ctRX := ⟨con_ok cal_r02_Xdble _, trivial⟩
noncomputable abbrev ctLX : CT := [(f_long_Xdble, eXdble)]
theorem ctLX_ok : CTok Try.prog ctLX := ⟨con_ok cal_long_Xdble _, trivial⟩
theorem RCsngl_c (lo hi : Int) : Con Try.prog f_r02_Csngl [.s (.int .i32 lo), .s (.int .i32 hi)] [] (.ret (.tup [.s (.int .i32 lo), .s (.bool (hi != lgSign lo))]) []) := by
  intro K hK
  refine enter fn_r02_Csngl rfl nt_r02_Csngl rfl rfl (fun φ w0 β0 F => ?_)
  refine c_run tt_ok ctRX_ok k_r02_Csngl [] 60 (by kernel_rfl) ?_
  exact fin_k tt_ok (rs := rs_r02_Csngl) rfl rfl hK [] rfl rfl rfl rfl rfl rfl
theorem Csngl_c (lo hi : Int) (h : I32 lo) : Con Try.prog f_long_Csngl [.s (.int .i32 lo), .s (.int .i32 hi)] [] (.ret (.tup [.s (.int .i32 lo), .s (.bool (hi != lgSign lo))]) []) := by
  intro K hK
  refine enter fn_long_Csngl rfl nt_long_Csngl rfl rfl (fun φ w0 β0 F => ?_)
  refine c_run tt_ok ctLX_ok k_long_Csngl [] 60 (by kernel_rfl) ?_
  refine ⟨h, ?_⟩
  exact fin_k tt_ok (rs := rs_long_Csngl) rfl rfl hK [] rfl rfl rfl rfl rfl rfl

/-! Norm -/
noncomputable abbrev eLen64 : Ent := .st (conS (P := Try.prog) (f := f_math_bits_Len64) fun cargs σ0 => match cargs, σ0 with
  | [.s (.int .u64 z)], [] => some ⟨.ask (0 ≤ z ∧ z < 18446744073709551616) (.ret (.t (.s (.int .i64 (bitLen z.toNat : Int)))) []), fun K h => Len64_c z h.1.1 h.1.2 K h.2⟩
  | _, _ => none)
noncomputable abbrev eShl : Ent := .st (conS (P := Try.prog) (f := f_long_Shl) fun cargs σ0 => match cargs, σ0 with
  | [.s (.int .i32 a), .s (.int .i32 b), .s (.int .i32 n)], [] => some ⟨_, Shl_c a b n⟩
  | _, _ => none)
noncomputable abbrev ctL : CT := [(f_math_bits_Len64, eLen64)]
theorem ctL_ok : CTok Try.prog ctL := ⟨con_ok cal_math_bits_Len64 _, trivial⟩
noncomputable abbrev ctN : CT := [(f_long_double_value, in_long_double_value []), (f_math_bits_LeadingZeros64, in_math_bits_LeadingZeros64 ctL), (f_long_Shl, eShl)]
theorem ctN_ok : CTok Try.prog ctN := ⟨in_long_double_value_ok trivial, in_math_bits_LeadingZeros64_ok ctL_ok, con_ok cal_long_Shl _, trivial⟩

theorem bitLen_le {z : Int} (h0 : 0 ≤ z) (h1 : z < 18446744073709551616) : bitLen z.toNat ≤ 64 := by
  unfold bitLen; split
  · omega
  · have := Nat.log2_lt (n := z.toNat) (k := 64) (by omega)
    have e : (2 : Nat) ^ 64 = 18446744073709551616 := by decide
    omega
theorem Norm_c (hi lo : Int) : Con Try.prog f_long_Norm [.s (.int .i32 hi), .s (.int .i32 lo)] [] (.ret (.tup [.s (.int .i32 (lgNormH hi lo)), .s (.int .i32 (lgNorm hi lo)), .s (.int .i32 (lzN (Dv hi lo)))]) []) := by
  intro K hK
  refine enter fn_long_Norm rfl nt_long_Norm rfl rfl (fun φ w0 β0 F => ?_)
  refine c_run tt_ok ctN_ok k_long_Norm [] 60 (by kernel_rfl) ?_
  have eh : ∀ x : Int, IntKind.u32.wrap x = Uw x := fun x => IntKind.wrap_u32 x
  have hz : ((IntKind.u32.wrap hi == 0) && ((IntKind.u32.wrap lo == 0) && true)) = decide (Dv hi lo = 0) := by
    rw [eh, eh]
    have h1 := Uw_lo hi
    have h2 := Uw_lo lo
    by_cases a : Uw hi = 0
    · by_cases b : Uw lo = 0
      · simp [a, b, Dv]
      · have : ¬ Dv hi lo = 0 := by unfold Dv; omega
        simp [a, b, this]
    · have : ¬ Dv hi lo = 0 := by unfold Dv; omega
      simp [a, this]
  refine ⟨fun h => ?_, fun h => ?_⟩
  · rw [hz] at h
    have h' : Dv hi lo = 0 := by simpa using h
    refine fin_k tt_ok (rs := rs_long_Norm) rfl rfl hK [] (t3 ?_ ?_ ?_) rfl rfl rfl rfl rfl
    · unfold lgNormH; rw [if_pos h']
    · unfold lgNorm; rw [if_pos h']
    · unfold lzN; rw [if_pos h']
  · rw [hz] at h
    have h' : ¬ Dv hi lo = 0 := by simpa using h
    have edv : bits .or .u64 (IntKind.u64.wrap (IntKind.u64.wrap (IntKind.u32.wrap hi) * 2 ^ min 32 IntKind.u64.bits)) (IntKind.u64.wrap (IntKind.u32.wrap lo)) = Dv hi lo := dv_prog hi lo
    refine ⟨by rw [edv]; exact ⟨Dv_lo _ _, Dv_hi _ _⟩, ?_⟩
    have hle := bitLen_le (Dv_lo hi lo) (Dv_hi hi lo)
    have elz : IntKind.i32.wrap (IntKind.i64.wrap (64 - ((bitLen (Dv hi lo).toNat : Nat) : Int))) = lzN (Dv hi lo) := by
      rw [lzN_len _ (Dv_lo _ _)]; simp only [IntKind.wrap_i64, IntKind.wrap_i32]; omega
    refine fin_k tt_ok (rs := rs_long_Norm) rfl rfl hK [] (t3 ?_ ?_ ?_) rfl rfl rfl rfl rfl
    · rw [edv, elz]; unfold lgNormH; rw [if_neg h']
    · rw [edv, elz]; unfold lgNorm; rw [if_neg h']
    · rw [edv, elz]
end Go.Proofs

namespace Go.Proofs
open Go Go.Sx
set_option maxRecDepth 10000

noncomputable abbrev eRShl : Ent := .st (conS (P := Try.prog) (f := f_r02_Shl) fun cargs σ0 => match cargs, σ0 with
  | [.s (.int .i32 a), .s (.int .i32 b), .s (.int .i32 n)], [] => some ⟨.ask (I32 a ∧ I32 b ∧ I32 n) (.ret (.tup [.s (.int .i32 (lgShlH a b n)), .s (.int .i32 (lgShl a b n))]) []), fun K h => RShl_c a b n h.1.1 h.1.2.1 h.1.2.2 K h.2⟩
  | _, _ => none)
noncomputable abbrev ctRN : CT := [(f_r02_Shl, eRShl)]
theorem ctRN_ok : CTok Try.prog ctRN := ⟨con_ok cal_r02_Shl _, trivial⟩

theorem shlV1 {z : Int} (h0 : 0 ≤ z) (h1 : z < 9223372036854775808) : shlV z 1 = z * 2 := by
  unfold shlV
  have e : (Uw 1).toNat = 1 := by decide
  rw [e, Int.pow_one]; omega
theorem norm_end {z : Int} {n : Nat} {h l : Int} (h0 : 0 ≤ z) (h1 : z < 18446744073709551616) (hn : n ≤ 64) (hv : Dv h l = z * 2 ^ n) (hs : z = 0 → n = 64) (hz : z ≠ 0 → 9223372036854775808 ≤ Dv h l) :
    lzN z = (n : Int) ∧ (z ≠ 0 → shlV z (n : Int) = Dv h l) := by
  have hlt := Dv_hi h l
  by_cases hz0 : z = 0
  · refine ⟨?_, fun h => absurd hz0 h⟩
    rw [hs hz0]; unfold lzN; rw [if_pos hz0]; rfl
  · have h63 := hz hz0
    have hp := pow2_pos n
    have hn64 : n < 64 := by
      rcases Nat.lt_or_ge n 64 with h | h
      · exact h
      · have : n = 64 := by omega
        subst this
        rw [e64] at hv; omega
    have hb : bitLen z.toNat = 64 - n := by
      have e : 64 - n = (63 - n) + 1 := by omega
      rw [e]
      have p1 : (2 : Int) ^ 63 = 2 ^ n * 2 ^ (63 - n) := pow_split (by omega)
      have p2 : (2 : Int) ^ 64 = 2 ^ n * 2 ^ (63 - n + 1) := by rw [← Int.pow_add]; congr 1; omega
      have e63 : (2 : Int) ^ 63 = 9223372036854775808 := by decide
      rw [e63] at p1
      rw [e64] at p2
      rw [hv] at h63 hlt
      have q1 : (2 : Int) ^ (63 - n) ≤ z := by
        rw [p1, Int.mul_comm z] at h63
        exact Int.le_of_mul_le_mul_left h63 hp
      have q2 : z < (2 : Int) ^ (63 - n + 1) := by
        rw [p2, Int.mul_comm z] at hlt
        exact Int.lt_of_mul_lt_mul_left hlt (by omega)
      have cst : ∀ k : Nat, ((2 ^ k : Nat) : Int) = (2 : Int) ^ k := fun k => by simp
      refine bitLen_of ?_ ?_
      · have := cst (63 - n); omega
      · have := cst (63 - n + 1); omega
    refine ⟨by rw [lzN_len z h0, hb]; omega, fun _ => ?_⟩
    unfold shlV
    have e : (Uw (n : Int)).toNat = n := by unfold Uw; omega
    rw [e, ← hv]; have := Dv_lo h l; omega

theorem RNorm_c (hi lo : Int) (h1 : I32 hi) (h2 : I32 lo) : Con Try.prog f_r02_Norm [.s (.int .i32 hi), .s (.int .i32 lo)] [] (.ret (.tup [.s (.int .i32 (lgNormH hi lo)), .s (.int .i32 (lgNorm hi lo)), .s (.int .i32 (lzN (Dv hi lo)))]) []) := by
  intro K hK
  refine enter fn_r02_Norm rfl nt_r02_Norm rfl rfl (fun φ w0 β0 F => ?_)
  refine c_run tt_ok ctRN_ok k_r02_Norm [] 60 (by kernel_rfl) ?_
  show WpC _ _ _ _ _
  refine c_loop (α := Int × Int × Nat) (fun p => I32 p.1 ∧ I32 p.2.1 ∧ p.2.2 ≤ 64 ∧ Dv p.1 p.2.1 = Dv hi lo * 2 ^ p.2.2) (fun p => 64 - p.2.2)
    (fun p => [(0, .t (.s (.int .i32 p.1)), none), (1, .t (.s (.int .i32 p.2.1)), none), (7, .t (.s (.int .i32 (p.2.2 : Int))), none)]) (fun _ => []) (hi, lo, 0) ⟨h1, h2, by simp, by simp⟩ ?_ ?_
  · exact into [] ⟨⟨_, rfl, rfl⟩, ⟨_, rfl, rfl⟩, ⟨_, rfl, rfl⟩, trivial⟩ ⟨_, rfl, rfl⟩ rfl rfl rfl rfl
  · rintro ⟨h, l, n⟩ ⟨hh, hl, hn, hv⟩
    simp only at hh hl hn hv
    dsimp only
    have hcond : (bif decide ((n : Int) < 64) then decide (h ≥ 0) else false) = decide (n < 64 ∧ 0 ≤ h) := by
      by_cases a : n < 64
      · rw [decide_eq_true (show (n : Int) < 64 by omega)]; simp [a]
      · rw [decide_eq_false (show ¬ (n : Int) < 64 by omega)]; simp [a]
    refine c_run' tt_ok ctRN_ok k_r02_Norm [] 60 (by kernel_rfl) (by kernel_rfl) ?_
    refine ⟨fun h3 => ?_, fun h3 => ?_⟩
    · rw [hcond] at h3
      simp only [decide_eq_true_eq] at h3
      refine ⟨⟨hh, hl, by decide, by decide⟩, ?_⟩
      have hlt : Dv h l < 9223372036854775808 := by unfold Dv Uw I32 at *; omega
      have hs := shlV1 (Dv_lo h l) hlt
      refine e_again (lgShlH h l 1, lgShl h l 1, n + 1) ⟨Wd_i32 _, Wd_i32 _, show n + 1 ≤ 64 by omega, ?_⟩ (show 64 - (n + 1) < 64 - n by omega)
        (into [] ⟨⟨_, rfl, rfl⟩, ⟨_, rfl, rfl⟩, ⟨_, rfl, fvi (by show IntKind.i32.wrap ((n : Int) + 1) = ((n + 1 : Nat) : Int); rw [IntKind.wrap_i32]; omega)⟩, trivial⟩ ⟨_, rfl, rfl⟩ rfl rfl rfl rfl)
      show Dv (lgShlH h l 1) (lgShl h l 1) = _
      unfold lgShlH lgShl
      rw [hs, Dv_split _ (by have := Dv_lo h l; omega) (by omega), hv, Int.pow_succ, Int.mul_assoc]
    · rw [hcond] at h3
      simp only [decide_eq_false_iff_not] at h3
      have hz0 := Dv_lo hi lo
      have hz1 := Dv_hi hi lo
      have hend := norm_end (z := Dv hi lo) hz0 hz1 hn hv (fun h0 => by
          rw [h0, Int.zero_mul] at hv
          have : 0 ≤ h := by unfold Dv Uw I32 at *; omega
          omega) (fun hne => by
          by_cases hn64 : n = 64
          · subst hn64
            rw [e64] at hv
            have := Dv_hi h l
            omega
          · have : h < 0 := by omega
            unfold Dv Uw I32 at *; omega)
      refine fin_k tt_ok (rs := rs_r02_Norm) rfl rfl hK [] (t3 ?_ ?_ hend.1.symm) rfl rfl rfl rfl rfl
      · unfold lgNormH
        split
        · rename_i h0
          rw [h0, Int.zero_mul] at hv
          unfold Dv Uw I32 at *; omega
        · rename_i h0
          unfold lgShlH
          rw [hend.1, hend.2 h0]
          unfold Dv Uw Wd I32 at *; omega
      · unfold lgNorm
        split
        · rename_i h0
          rw [h0, Int.zero_mul] at hv
          unfold Dv Uw I32 at *; omega
        · rename_i h0
          unfold lgShl
          rw [hend.1, hend.2 h0]
          unfold Dv Uw Wd I32 at *; omega
end Go.Proofs

namespace Go.Proofs
open Go Go.Sx
set_option maxRecDepth 10000

noncomputable abbrev eSum : Ent := .st (conS (P := Try.prog) (f := f_long_Sum) fun cargs σ0 => match cargs, σ0 with
  | [.s (.int .i32 a), .s (.int .i32 b), .s (.int .i32 c)], [] => some ⟨.ret (.tup [.s (.int .i32 (lgSum a b c)), .s (.int .i32 (lgSumC a b c))]) [], fun K h => Sum_c a b c K h⟩
  | _, _ => none)
noncomputable abbrev eDiff : Ent := .st (conS (P := Try.prog) (f := f_long_Diff) fun cargs σ0 => match cargs, σ0 with
  | [.s (.int .i32 a), .s (.int .i32 b), .s (.int .i32 c)], [] => some ⟨.ret (.tup [.s (.int .i32 (lgDiff a b c)), .s (.int .i32 (lgDiffC a b c))]) [], fun K h => Diff_c a b c K h⟩
  | _, _ => none)
noncomputable abbrev eMul : Ent := .st (conS (P := Try.prog) (f := f_long_Mul) fun cargs σ0 => match cargs, σ0 with
  | [.s (.int .i32 a), .s (.int .i32 b), .s (.int .i32 c)], [] => some ⟨.ret (.tup [.s (.int .i32 (lgMul a b c)), .s (.int .i32 (lgMulH a b c))]) [], fun K h => Mul_c a b c K h⟩
  | _, _ => none)
noncomputable abbrev eAdd : Ent := .st (conS (P := Try.prog) (f := f_long_Add) fun cargs σ0 => match cargs, σ0 with
  | [.s (.int .i32 a), .s (.int .i32 b), .s (.int .i32 c)], [] => some ⟨.ask (I32 a ∧ I32 b) (.ret (.tup [.s (.int .i32 (lgAdd a b c)), .s (.bool (lgAddO a b c))]) []), fun K h => Add_c a b c K h⟩
  | _, _ => none)
noncomputable abbrev eSub : Ent := .st (conS (P := Try.prog) (f := f_long_Sub) fun cargs σ0 => match cargs, σ0 with
  | [.s (.int .i32 a), .s (.int .i32 b), .s (.int .i32 c)], [] => some ⟨.ask (I32 a ∧ I32 b) (.ret (.tup [.s (.int .i32 (lgSub a b c)), .s (.bool (lgSubO a b c))]) []), fun K h => Sub_c a b c K h⟩
  | _, _ => none)
noncomputable abbrev eDiv : Ent := .st (conS (P := Try.prog) (f := f_long_Div) fun cargs σ0 => match cargs, σ0 with
  | [.s (.int .i32 a), .s (.int .i32 b), .s (.int .i32 c)], [] => some ⟨.br (lgDivO a c) (.ret (.tup [.s (.int .i32 0), .s (.int .i32 0), .s (.bool true)]) []) (.ret (.tup [.s (.int .i32 (lgDiv a b c)), .s (.int .i32 (lgRem a b c)), .s (.bool false)]) []), fun K h => Div_c a b c K h⟩
  | _, _ => none)
noncomputable abbrev eShr : Ent := .st (conS (P := Try.prog) (f := f_long_Shr) fun cargs σ0 => match cargs, σ0 with
  | [.s (.int .i32 a), .s (.int .i32 b), .s (.int .i32 c)], [] => some ⟨.ret (.tup [.s (.int .i32 (lgShrH a b c)), .s (.int .i32 (lgShr a b c))]) [], fun K h => Shr_c a b c K h⟩
  | _, _ => none)
noncomputable abbrev eNorm : Ent := .st (conS (P := Try.prog) (f := f_long_Norm) fun cargs σ0 => match cargs, σ0 with
  | [.s (.int .i32 a), .s (.int .i32 b)], [] => some ⟨.ret (.tup [.s (.int .i32 (lgNormH a b)), .s (.int .i32 (lgNorm a b)), .s (.int .i32 (lzN (Dv a b)))]) [], fun K h => Norm_c a b K h⟩
  | _, _ => none)
noncomputable abbrev eCsngl : Ent := .st (conS (P := Try.prog) (f := f_long_Csngl) fun cargs σ0 => match cargs, σ0 with
  | [.s (.int .i32 a), .s (.int .i32 b)], [] => some ⟨.ask (I32 a) (.ret (.tup [.s (.int .i32 (a)), .s (.bool (b != lgSign a))]) []), fun K h => Csngl_c a b h.1 K h.2⟩
  | _, _ => none)
noncomputable abbrev eRSum : Ent := .st (conS (P := Try.prog) (f := f_r02_Sum) fun cargs σ0 => match cargs, σ0 with
  | [.s (.int .i32 a), .s (.int .i32 b), .s (.int .i32 c)], [] => some ⟨.ask (I32 a ∧ I32 b ∧ I32 c) (.ret (.tup [.s (.int .i32 (lgSum a b c)), .s (.int .i32 (lgSumC a b c))]) []), fun K h => RSum_c a b c h.1.1 h.1.2.1 h.1.2.2 K h.2⟩
  | _, _ => none)
noncomputable abbrev eRDiff : Ent := .st (conS (P := Try.prog) (f := f_r02_Diff) fun cargs σ0 => match cargs, σ0 with
  | [.s (.int .i32 a), .s (.int .i32 b), .s (.int .i32 c)], [] => some ⟨.ask (I32 a ∧ I32 b ∧ I32 c) (.ret (.tup [.s (.int .i32 (lgDiff a b c)), .s (.int .i32 (lgDiffC a b c))]) []), fun K h => RDiff_c a b c h.1.1 h.1.2.1 h.1.2.2 K h.2⟩
  | _, _ => none)
noncomputable abbrev eRMul : Ent := .st (conS (P := Try.prog) (f := f_r02_Mul) fun cargs σ0 => match cargs, σ0 with
  | [.s (.int .i32 a), .s (.int .i32 b), .s (.int .i32 c)], [] => some ⟨.ask (I32 a ∧ I32 b ∧ I32 c) (.ret (.tup [.s (.int .i32 (lgMul a b c)), .s (.int .i32 (lgMulH a b c))]) []), fun K h => RMul_c a b c h.1.1 h.1.2.1 h.1.2.2 K h.2⟩
  | _, _ => none)
noncomputable abbrev eRAdd : Ent := .st (conS (P := Try.prog) (f := f_r02_Add) fun cargs σ0 => match cargs, σ0 with
  | [.s (.int .i32 a), .s (.int .i32 b), .s (.int .i32 c)], [] => some ⟨.ask (I32 a ∧ I32 b ∧ I32 c) (.ret (.tup [.s (.int .i32 (lgAdd a b c)), .s (.bool (lgAddO a b c))]) []), fun K h => RAdd_c a b c h.1.1 h.1.2.1 h.1.2.2 K h.2⟩
  | _, _ => none)
noncomputable abbrev eRSub : Ent := .st (conS (P := Try.prog) (f := f_r02_Sub) fun cargs σ0 => match cargs, σ0 with
  | [.s (.int .i32 a), .s (.int .i32 b), .s (.int .i32 c)], [] => some ⟨.ask (I32 a ∧ I32 b ∧ I32 c) (.ret (.tup [.s (.int .i32 (lgSub a b c)), .s (.bool (lgSubO a b c))]) []), fun K h => RSub_c a b c h.1.1 h.1.2.1 h.1.2.2 K h.2⟩
  | _, _ => none)
noncomputable abbrev eRDiv : Ent := .st (conS (P := Try.prog) (f := f_r02_Div) fun cargs σ0 => match cargs, σ0 with
  | [.s (.int .i32 a), .s (.int .i32 b), .s (.int .i32 c)], [] => some ⟨.ask (I32 a ∧ I32 b ∧ I32 c) (.br (lgDivO a c) (.ret (.tup [.s (.int .i32 0), .s (.int .i32 0), .s (.bool true)]) []) (.ret (.tup [.s (.int .i32 (lgDiv a b c)), .s (.int .i32 (lgRem a b c)), .s (.bool false)]) [])), fun K h => RDiv_c a b c h.1.1 h.1.2.1 h.1.2.2 K h.2⟩
  | _, _ => none)
noncomputable abbrev eRShr : Ent := .st (conS (P := Try.prog) (f := f_r02_Shr) fun cargs σ0 => match cargs, σ0 with
  | [.s (.int .i32 a), .s (.int .i32 b), .s (.int .i32 c)], [] => some ⟨.ask (I32 a ∧ I32 b ∧ I32 c) (.ret (.tup [.s (.int .i32 (lgShrH a b c)), .s (.int .i32 (lgShr a b c))]) []), fun K h => RShr_c a b c h.1.1 h.1.2.1 h.1.2.2 K h.2⟩
  | _, _ => none)
noncomputable abbrev eRNorm : Ent := .st (conS (P := Try.prog) (f := f_r02_Norm) fun cargs σ0 => match cargs, σ0 with
  | [.s (.int .i32 a), .s (.int .i32 b)], [] => some ⟨.ask (I32 a ∧ I32 b) (.ret (.tup [.s (.int .i32 (lgNormH a b)), .s (.int .i32 (lgNorm a b)), .s (.int .i32 (lzN (Dv a b)))]) []), fun K h => RNorm_c a b h.1.1 h.1.2 K h.2⟩
  | _, _ => none)
noncomputable abbrev eRCsngl : Ent := .st (conS (P := Try.prog) (f := f_r02_Csngl) fun cargs σ0 => match cargs, σ0 with
  | [.s (.int .i32 a), .s (.int .i32 b)], [] => some ⟨.ret (.tup [.s (.int .i32 (a)), .s (.bool (b != lgSign a))]) [], fun K h => RCsngl_c a b K h⟩
  | _, _ => none)
noncomputable abbrev ctLong : CT := [(f_long_Sum, eSum), (f_long_Diff, eDiff), (f_long_Mul, eMul), (f_long_Add, eAdd), (f_long_Sub, eSub), (f_long_Div, eDiv), (f_long_Shr, eShr), (f_long_Norm, eNorm), (f_long_Csngl, eCsngl), (f_long_Shl, eShl), (f_long_Xdble, eXdble)]
theorem ctLong_ok : CTok Try.prog ctLong := ⟨con_ok cal_long_Sum _, con_ok cal_long_Diff _, con_ok cal_long_Mul _, con_ok cal_long_Add _, con_ok cal_long_Sub _, con_ok cal_long_Div _, con_ok cal_long_Shr _, con_ok cal_long_Norm _, con_ok cal_long_Csngl _, con_ok cal_long_Shl _, con_ok cal_long_Xdble _, trivial⟩

theorem awake_c : Con Try.prog f_l02_awake [] [] (.ret (.t (.s (.bool true))) []) := by
  intro K hK
  refine enter fn_l02_awake rfl nt_l02_awake rfl rfl (fun φ w0 β0 F => ?_)
  refine c_run tt_ok ctLong_ok k_l02_awake [] 60 (by kernel_rfl) ?_
  refine ⟨⟨⟨by decide, by decide⟩, by decide, by decide⟩, ⟨⟨by decide, by decide⟩, by decide, by decide⟩, fun h => ?_, fun _ => ⟨fun _ => ?_, fun h => ?_⟩⟩
  · exact absurd h (by decide)
  · exact fin_k tt_ok (rs := rs_l02_awake) rfl rfl hK [] (t1b (by decide +kernel)) rfl rfl rfl rfl rfl
  · exact absurd h (by decide)
def spAwake : List TV → Option (Prop × FV)
  | [] => some (True, .t (.s (.bool true)))
  | _ => none
theorem ceAwake : CEok Try.prog f_l02_awake spAwake := ⟨cal_l02_awake, fun args p v h hp => by
  unfold spAwake at h; split at h
  · cases h; exact awake_c.pure
  · cases h⟩
noncomputable abbrev ctAll : CT := (f_l02_awake, .pure spAwake) :: (f_l02_below, in_l02_below []) :: [(f_long_Sum, eSum), (f_long_Diff, eDiff), (f_long_Mul, eMul), (f_long_Add, eAdd), (f_long_Sub, eSub), (f_long_Div, eDiv), (f_long_Shr, eShr), (f_long_Norm, eNorm), (f_long_Csngl, eCsngl), (f_long_Shl, eShl), (f_long_Xdble, eXdble), (f_r02_Sum, eRSum), (f_r02_Diff, eRDiff), (f_r02_Mul, eRMul), (f_r02_Add, eRAdd), (f_r02_Sub, eRSub), (f_r02_Div, eRDiv), (f_r02_Shr, eRShr), (f_r02_Norm, eRNorm), (f_r02_Csngl, eRCsngl), (f_r02_Shl, eRShl), (f_r02_Xdble, eRXdble)]
theorem ctAll_ok : CTok Try.prog ctAll := ⟨ceAwake, in_l02_below_ok trivial, con_ok cal_long_Sum _, con_ok cal_long_Diff _, con_ok cal_long_Mul _, con_ok cal_long_Add _, con_ok cal_long_Sub _, con_ok cal_long_Div _, con_ok cal_long_Shr _, con_ok cal_long_Norm _, con_ok cal_long_Csngl _, con_ok cal_long_Shl _, con_ok cal_long_Xdble _, con_ok cal_r02_Sum _, con_ok cal_r02_Diff _, con_ok cal_r02_Mul _, con_ok cal_r02_Add _, con_ok cal_r02_Sub _, con_ok cal_r02_Div _, con_ok cal_r02_Shr _, con_ok cal_r02_Norm _, con_ok cal_r02_Csngl _, con_ok cal_r02_Shl _, con_ok cal_r02_Xdble _, trivial⟩

theorem LongSums_c (a b c : Int) (ha : I32 a) (hb : I32 b) (hc : I32 c) : Con Try.prog f_l02_LongSums [.s (.int .i32 a), .s (.int .i32 b), .s (.int .i32 c)] [] (.ret (.t (.s (.bool true))) []) := by
  intro K hK
  refine enter fn_l02_LongSums rfl nt_l02_LongSums rfl rfl (fun φ w0 β0 F => ?_)
  refine c_run tt_ok ctAll_ok k_l02_LongSums [] 60 (by kernel_rfl) ?_
  refine ⟨⟨ha, hb, hc⟩, fun h => ?_, fun _ => ⟨⟨ha, hb, hc⟩, fun h => ?_, fun _ => ⟨⟨ha, hb, hc⟩, fun _ => trivial, ?_⟩⟩⟩
  · simp at h
  · simp at h
  · exact fin_k tt_ok (rs := rs_l02_LongSums) rfl rfl hK [] (t1b (by simp)) rfl rfl rfl rfl rfl
end Go.Proofs

namespace Go.Proofs
open Go Go.Sx
set_option maxRecDepth 10000

theorem LongAdds_c (a b c : Int) (ha : I32 a) (hb : I32 b) (hc : I32 c) : Con Try.prog f_l02_LongAdds [.s (.int .i32 a), .s (.int .i32 b), .s (.int .i32 c)] [] (.ret (.t (.s (.bool true))) []) := by
  intro K hK
  refine enter fn_l02_LongAdds rfl nt_l02_LongAdds rfl rfl (fun φ w0 β0 F => ?_)
  refine c_run tt_ok ctAll_ok k_l02_LongAdds [] 60 (by kernel_rfl) ?_
  refine ⟨⟨ha, hb⟩, ⟨ha, hb, hc⟩, fun h => ?_, fun _ => ⟨⟨ha, hb⟩, ⟨ha, hb, hc⟩, fun h => ?_, fun _ => ⟨ha, ha, fun _ => trivial, ?_⟩⟩⟩
  · simp at h
  · simp at h
  · exact fin_k tt_ok (rs := rs_l02_LongAdds) rfl rfl hK [] (t1b (by simp)) rfl rfl rfl rfl rfl

theorem LongShifts_c (a b c : Int) (ha : I32 a) (hb : I32 b) (hc : I32 c) : Con Try.prog f_l02_LongShifts [.s (.int .i32 a), .s (.int .i32 b), .s (.int .i32 c)] [] (.ret (.t (.s (.bool true))) []) := by
  intro K hK
  refine enter fn_l02_LongShifts rfl nt_l02_LongShifts rfl rfl (fun φ w0 β0 F => ?_)
  refine c_run tt_ok ctAll_ok k_l02_LongShifts [] 60 (by kernel_rfl) ?_
  refine ⟨fun d1 => ⟨⟨ha, hb, hc⟩, fun d2 => ⟨fun h => ?_, fun _ => ⟨⟨ha, hb, hc⟩, fun h => ?_, fun _ => ⟨⟨ha, hb, hc⟩, fun h => ?_, fun _ => ⟨⟨ha, hb⟩, fun _ => trivial, ?_⟩⟩⟩⟩, fun d2 => ?_⟩,
    fun d1 => ⟨⟨ha, hb, hc⟩, fun d2 => ?_, fun d2 => ⟨fun h => ?_, fun _ => ⟨⟨ha, hb, hc⟩, fun h => ?_, fun _ => ⟨⟨ha, hb, hc⟩, fun h => ?_, fun _ => ⟨⟨ha, hb⟩, fun _ => trivial, ?_⟩⟩⟩⟩⟩⟩
  · simp at h
  · simp at h
  · simp at h
  · exact fin_k tt_ok (rs := rs_l02_LongShifts) rfl rfl hK [] (t1b (by simp)) rfl rfl rfl rfl rfl
  · rw [d1] at d2; cases d2
  · rw [d1] at d2; cases d2
  · simp at h
  · simp at h
  · simp at h
  · exact fin_k tt_ok (rs := rs_l02_LongShifts) rfl rfl hK [] (t1b (by simp)) rfl rfl rfl rfl rfl

end Go.Proofs

namespace Go.Proofs
open Go Go.Sx
set_option maxRecDepth 10000
theorem lgAddO_sign {a b c : Int} (ha : I32 a) (hb : I32 b) : lgAddO a b c = bif decide (a < 0) == decide (b < 0) then !(decide (lgAdd a b c < 0) == decide (a < 0)) else false := by
  unfold I32 at ha hb
  unfold lgAddO lgAdd Wd
  rw [bne]
  by_cases h1 : a < 0 <;> by_cases h2 : b < 0 <;> by_cases h3 : (a + b + c % 2 + 2147483648) % 4294967296 - 2147483648 < 0 <;> simp [h1, h2, h3] <;> omega
theorem lgSubO_sign {a b c : Int} (ha : I32 a) (hb : I32 b) : lgSubO a b c = bif !(decide (a < 0) == decide (b < 0)) then !(decide (lgSub a b c < 0) == decide (a < 0)) else false := by
  unfold I32 at ha hb
  unfold lgSubO lgSub Wd
  rw [bne]
  by_cases h1 : a < 0 <;> by_cases h2 : b < 0 <;> by_cases h3 : (a - b - c % 2 + 2147483648) % 4294967296 - 2147483648 < 0 <;> simp [h1, h2, h3] <;> omega
theorem lgSub_lgAdd {a b c : Int} (ha : I32 a) : lgSub (lgAdd a b c) b c = a := by
  unfold I32 at ha; unfold lgSub lgAdd Wd; omega
theorem lgAdd_lgSub {a b c : Int} (ha : I32 a) : lgAdd (lgSub a b c) b c = a := by
  unfold I32 at ha; unfold lgSub lgAdd Wd; omega
theorem LongSigned_c (a b c hi : Int) (ha : I32 a) (hb : I32 b) (hc : I32 c) (hh : I32 hi) : Con Try.prog f_l02_LongSigned [.s (.int .i32 a), .s (.int .i32 b), .s (.int .i32 c), .s (.int .i32 hi)] [] (.ret (.t (.s (.bool true))) []) := by
  intro K hK
  refine enter fn_l02_LongSigned rfl nt_l02_LongSigned rfl rfl (fun φ w0 β0 F => ?_)
  refine c_run tt_ok ctAll_ok k_l02_LongSigned [] 60 (by kernel_rfl) ?_
  refine ⟨⟨ha, hb⟩, ⟨ha, hb⟩, fun h => ?_, fun _ => ⟨⟨Wd_i32 _, hb⟩, ⟨Wd_i32 _, hb⟩, fun h => ?_, fun _ => ⟨ha, ha, ha, fun _ => trivial, ?_⟩⟩⟩
  · exfalso
    clear hK
    rw [← lgAddO_sign ha hb, ← lgSubO_sign ha hb, show lgSum a b c = lgAdd a b c from rfl, show lgDiff a b c = lgSub a b c from rfl] at h
    simp at h
  · exfalso
    rw [lgSub_lgAdd ha, lgAdd_lgSub ha] at h
    simp at h
  · refine fin_k tt_ok (rs := rs_l02_LongSigned) rfl rfl hK [] (t1b ?_) rfl rfl rfl rfl rfl
    simp
end Go.Proofs

namespace Go.Proofs
open Go Go.Sx
set_option maxRecDepth 10000
theorem Uw_id {n : Int} (h0 : 0 ≤ n) (h1 : n < 4294967296) : Uw (Wd n) = n := by rw [Uw_Wd]; omega
theorem Wd_Uw' {a : Int} (h : I32 a) : Wd (Uw a) = a := by rw [Wd_Uw, Wd_of h]
theorem mulAdd_hi (a d c : Int) : 0 ≤ Uw a * Uw d + Uw c ∧ Uw a * Uw d + Uw c < 18446744073709551616 := by
  have := mul_U a d; have := Uw_lo c; have := Uw_hi c; omega
theorem Dv_mul (a d c : Int) : Dv (lgMulH a d c) (lgMul a d c) = Uw a * Uw d + Uw c := by
  have h := mulAdd_hi a d c
  exact Dv_split _ h.1 h.2
theorem mul_div {a d c : Int} (h : Uw c < Uw d) : (Uw a * Uw d + Uw c) / Uw d = Uw a ∧ (Uw a * Uw d + Uw c) % Uw d = Uw c := by
  have h0 := Uw_lo c
  constructor
  · rw [Int.add_comm, Int.add_mul_ediv_right _ _ (by omega), Int.ediv_eq_zero_of_lt h0 h]; omega
  · rw [Int.add_comm, Int.add_mul_emod_self_right, Int.emod_eq_of_lt h0 h]
theorem mul_over {a d c : Int} (h : Uw c < Uw d) : lgDivO (lgMulH a d c) d = false := by
  have hm := mulAdd_hi a d c
  unfold lgDivO lgMulH
  rw [Uw_id (by omega) (by omega), decide_eq_false_iff_not]
  have h1 : Uw a * Uw d ≤ 4294967295 * Uw d := Int.mul_le_mul_of_nonneg_right (by have := Uw_hi a; omega) (Uw_lo d)
  omega
theorem mul_back {a d c : Int} (ha : I32 a) (hc : I32 c) (h : Uw c < Uw d) : lgDiv (lgMulH a d c) (lgMul a d c) d = a ∧ lgRem (lgMulH a d c) (lgMul a d c) d = c := by
  unfold lgDiv lgRem
  rw [Dv_mul, (mul_div h).1, (mul_div h).2]
  exact ⟨Wd_Uw' ha, Wd_Uw' hc⟩
theorem div_q {hi lo d : Int} (h : lgDivO hi d = false) : Uw (lgDiv hi lo d) = Dv hi lo / Uw d ∧ Uw (lgRem hi lo d) = Dv hi lo % Uw d ∧ 0 < Uw d := by
  unfold lgDivO at h
  have h' : Uw hi < Uw d := by have := of_decide_eq_false h; omega
  have h0 := Uw_lo hi
  have h1 := Uw_hi d
  have hl := Uw_hi lo
  have hd : 0 ≤ Dv hi lo := Dv_lo _ _
  have hlt : Dv hi lo < 4294967296 * Uw d := by
    unfold Dv; omega
  unfold lgDiv lgRem
  refine ⟨Uw_id (Int.ediv_nonneg hd (by omega)) (Int.ediv_lt_of_lt_mul (by omega) hlt), Uw_id (Int.emod_nonneg _ (by omega)) ?_, by omega⟩
  have := Int.emod_lt_of_pos (Dv hi lo) (show 0 < Uw d by omega)
  omega
theorem div_back {hi lo d : Int} (h : lgDivO hi d = false) : Uw (lgDiv hi lo d) * Uw d + Uw (lgRem hi lo d) = Dv hi lo ∧ Uw (lgRem hi lo d) < Uw d := by
  obtain ⟨e1, e2, e3⟩ := div_q (lo := lo) h
  rw [e1, e2]
  have := Int.emod_lt_of_pos (Dv hi lo) e3
  have := Int.mul_ediv_add_emod (Dv hi lo) (Uw d)
  rw [Int.mul_comm]
  omega
theorem Dv_parts (hi lo : Int) (h1 : I32 hi) (h2 : I32 lo) : Wd (Dv hi lo) = lo ∧ Wd (Dv hi lo / 4294967296) = hi := by
  unfold I32 at h1 h2; unfold Dv Wd Uw; omega
theorem back_mul {hi lo d : Int} (h1 : I32 hi) (h2 : I32 lo) (h : lgDivO hi d = false) : lgMul (lgDiv hi lo d) d (lgRem hi lo d) = lo ∧ lgMulH (lgDiv hi lo d) d (lgRem hi lo d) = hi := by
  unfold lgMul lgMulH
  rw [(div_back h).1]
  exact Dv_parts hi lo h1 h2
theorem below_lt {c d : Int} (h : decide (IntKind.u32.wrap c < IntKind.u32.wrap d) = true) : Uw c < Uw d := by
  have := of_decide_eq_true h
  simp only [IntKind.wrap_u32] at this
  exact this
theorem below_over {a d : Int} {b : Bool} (h : lgDivO a d = b) : decide (IntKind.u32.wrap a < IntKind.u32.wrap d) = !b := by
  subst h
  unfold lgDivO Uw
  simp only [IntKind.wrap_u32]
  by_cases h : a % 4294967296 < d % 4294967296 <;> simp [h] <;> omega
theorem below_rem {hi lo d : Int} (h : lgDivO hi d = false) : decide (IntKind.u32.wrap (lgRem hi lo d) < IntKind.u32.wrap d) = true := by
  have := (div_back (lo := lo) h).2
  rw [decide_eq_true_iff]
  simp only [IntKind.wrap_u32]
  exact this
theorem LongBack_c (a d c : Int) (ha : I32 a) (hd : I32 d) (hc : I32 c) : Con Try.prog f_l02_LongBack [.s (.int .i32 a), .s (.int .i32 d), .s (.int .i32 c)] [] (.ret (.t (.s (.bool true))) []) := by
  intro K hK
  refine enter fn_l02_LongBack rfl nt_l02_LongBack rfl rfl (fun φ w0 β0 F => ?_)
  refine c_run tt_ok ctAll_ok k_l02_LongBack [] 60 (by kernel_rfl) ?_
  refine ⟨fun b1 => ⟨fun o1 => ?_, fun o1 => ⟨fun h => ?_, fun h1 => ⟨fun o2 => ⟨fun h => ?_, fun h2 => ?_⟩, fun o2 => ⟨fun h => ?_, fun h2 => ?_⟩⟩⟩⟩, fun b1 => ⟨fun o2 => ⟨fun h => ?_, fun h2 => ?_⟩, fun o2 => ⟨fun h => ?_, fun h2 => ?_⟩⟩⟩
  · exfalso; rw [mul_over (below_lt b1)] at o1; cases o1
  · exfalso
    have e := mul_back ha hc (below_lt b1)
    rw [e.1, e.2] at h; simp at h
  · exfalso; rw [below_over o2] at h; simp at h
  · refine ⟨fun _ => ⟨fun _ => trivial, ?_⟩, fun h3 => by cases h3⟩
    exact fin_k tt_ok (rs := rs_l02_LongBack) rfl rfl hK [] (t1b (by simp)) rfl rfl rfl rfl rfl
  · exfalso; rw [below_over o2] at h; simp at h
  · refine ⟨fun h3 => (by cases h3), fun _ => ⟨fun _ => trivial, ?_⟩⟩
    refine fin_k tt_ok (rs := rs_l02_LongBack) rfl rfl hK [] (t1b ?_) rfl rfl rfl rfl rfl
    have e := back_mul ha hc o2
    rw [e.1, e.2, below_rem o2]; simp
  · exfalso; rw [below_over o2] at h; simp at h
  · refine ⟨fun _ => ⟨fun _ => trivial, ?_⟩, fun h3 => by cases h3⟩
    exact fin_k tt_ok (rs := rs_l02_LongBack) rfl rfl hK [] (t1b (by simp)) rfl rfl rfl rfl rfl
  · exfalso; rw [below_over o2] at h; simp at h
  · refine ⟨fun h3 => (by cases h3), fun _ => ⟨fun _ => trivial, ?_⟩⟩
    refine fin_k tt_ok (rs := rs_l02_LongBack) rfl rfl hK [] (t1b ?_) rfl rfl rfl rfl rfl
    have e := back_mul ha hc o2
    rw [e.1, e.2, below_rem o2]; simp
end Go.Proofs

namespace Go.Proofs
open Go Go.Sx
set_option maxRecDepth 10000
/-- Turns, one at a time. -/
def sL (z : Int) (k : Nat) : Int := z * 2 ^ k % 18446744073709551616
def sR (z : Int) (k : Nat) : Int := z / 2 ^ k
theorem sL_lo (z : Int) (k : Nat) : 0 ≤ sL z k := by unfold sL; omega
theorem sL_hi (z : Int) (k : Nat) : sL z k < 18446744073709551616 := by unfold sL; omega
theorem sR_lo {z : Int} (h : 0 ≤ z) (k : Nat) : 0 ≤ sR z k := Int.ediv_nonneg h (by have := pow2_pos k; omega)
theorem sR_hi {z : Int} (h : 0 ≤ z) (k : Nat) : sR z k ≤ z := Int.ediv_le_self _ h
theorem emul_emod (z m k : Int) : z % m * k % m = z * k % m := by rw [Int.mul_emod, Int.emod_emod, ← Int.mul_emod]
theorem sL_succ (z : Int) (k : Nat) : sL (sL z k) 1 = sL z (k + 1) := by
  unfold sL; rw [emul_emod, Int.pow_succ 2 k, Int.mul_assoc]; rfl
theorem sR_succ (z : Int) (k : Nat) : sR (sR z k) 1 = sR z (k + 1) := by
  unfold sR; rw [Int.pow_succ 2 k, Int.ediv_ediv_of_nonneg (by have := pow2_pos k; omega)]; rfl
theorem sL_zero {z : Int} (h0 : 0 ≤ z) (h1 : z < 18446744073709551616) : sL z 0 = z := by unfold sL; omega
theorem sR_zero (z : Int) : sR z 0 = z := by unfold sR; omega
theorem e2_64 : (2 : Int) ^ 64 = 18446744073709551616 := by decide
theorem sL_min (z : Int) (m : Nat) : sL z (min m 64) = sL z m := by
  unfold sL
  rcases Nat.le_total m 64 with h | h
  · rw [Nat.min_eq_left h]
  · rw [Nat.min_eq_right h, pow_split h, e2_64, Int.mul_emod_left, ← Int.mul_assoc, Int.mul_comm z, Int.mul_assoc, Int.mul_emod_right]
theorem sR_min {z : Int} (h0 : 0 ≤ z) (h1 : z < 18446744073709551616) (m : Nat) : sR z (min m 64) = sR z m := by
  unfold sR
  rcases Nat.le_total m 64 with h | h
  · rw [Nat.min_eq_left h]
  · rw [Nat.min_eq_right h]
    have : (2 : Int) ^ 64 ≤ 2 ^ m := by rw [pow_split h]; have := pow2_pos (m - 64); have e2 := Int.mul_le_mul_of_nonneg_left (show (1 : Int) ≤ 2 ^ (m - 64) by omega) (show (0 : Int) ≤ 2 ^ 64 by decide); omega
    rw [Int.ediv_eq_zero_of_lt h0 (by have := e2_64; omega), Int.ediv_eq_zero_of_lt h0 (by have := e2_64; omega)]
theorem Dv_sL (z : Int) (k : Nat) : Dv (Wd (sL z k / 4294967296)) (Wd (sL z k)) = sL z k := Dv_split _ (sL_lo _ _) (sL_hi _ _)
theorem Dv_sR {z : Int} (h0 : 0 ≤ z) (h1 : z < 18446744073709551616) (k : Nat) : Dv (Wd (sR z k / 4294967296)) (Wd (sR z k)) = sR z k :=
  Dv_split _ (sR_lo h0 _) (by have := sR_hi h0 k; omega)
theorem shl1 (z : Int) : shlV z 1 = sL z 1 := rfl
theorem shr1 (z : Int) : shrV z 1 = sR z 1 := rfl
theorem bits_or_i32 (A B : Nat) : bits .or .i32 (Wd A) (Wd B) = Wd ((A ||| B : Nat)) := by
  have e : ∀ x y, bits .or .i32 x y = IntKind.i32.wrap ((BitVec.ofInt 32 x ||| BitVec.ofInt 32 y).toNat : Int) := fun _ _ => rfl
  have e2 : ∀ A : Nat, BitVec.ofInt 32 (Wd A) = BitVec.ofNat 32 A := fun A => by
    apply BitVec.eq_of_toNat_eq
    rw [BitVec.toNat_ofInt, BitVec.toNat_ofNat]; unfold Wd
    have : ((2 ^ 32 : Nat) : Int) = 4294967296 := rfl
    rw [this]; omega
  rw [e, e2, e2, ← BitVec.ofNat_or, BitVec.toNat_ofNat, IntKind.wrap_i32]; unfold Wd; omega
theorem bits_and_i32 (A B : Nat) : bits .and .i32 (Wd A) (Wd B) = Wd ((A &&& B : Nat)) := by
  have e : ∀ x y, bits .and .i32 x y = IntKind.i32.wrap ((BitVec.ofInt 32 x &&& BitVec.ofInt 32 y).toNat : Int) := fun _ _ => rfl
  have e2 : ∀ A : Nat, BitVec.ofInt 32 (Wd A) = BitVec.ofNat 32 A := fun A => by
    apply BitVec.eq_of_toNat_eq
    rw [BitVec.toNat_ofInt, BitVec.toNat_ofNat]; unfold Wd
    have : ((2 ^ 32 : Nat) : Int) = 4294967296 := rfl
    rw [this]; omega
  rw [e, e2, e2, ← BitVec.ofNat_and, BitVec.toNat_ofNat, IntKind.wrap_i32]; unfold Wd; omega
/-- High bits and low bits, joined and parted. -/
theorem parts_or (Z b : Nat) : (Z / 2 ^ b * 2 ^ b) ||| (Z % 2 ^ b) = Z := by
  rw [Nat.mul_comm, ← Nat.two_pow_add_eq_or_of_lt (Nat.mod_lt _ (Nat.two_pow_pos b)), Nat.div_add_mod]
theorem parts_and (Z b : Nat) : (Z / 2 ^ b * 2 ^ b) &&& (Z % 2 ^ b) = 0 := by
  apply Nat.eq_of_testBit_eq
  intro i
  rw [Nat.mul_comm, Nat.testBit_and, Nat.testBit_two_pow_mul, Nat.testBit_mod_two_pow, Nat.zero_testBit]
  by_cases h : i < b
  · have : ¬ i ≥ b := by omega
    simp [this]
  · simp [h]
theorem or_div (A B : Nat) : A / 4294967296 ||| B / 4294967296 = (A ||| B) / 4294967296 := by
  have e : (4294967296 : Nat) = 2 ^ 32 := rfl
  rw [e, ← Nat.shiftRight_eq_div_pow, ← Nat.shiftRight_eq_div_pow, ← Nat.shiftRight_eq_div_pow, Nat.shiftRight_or_distrib]
theorem and_div (A B : Nat) : A / 4294967296 &&& B / 4294967296 = (A &&& B) / 4294967296 := by
  have e : (4294967296 : Nat) = 2 ^ 32 := rfl
  rw [e, ← Nat.shiftRight_eq_div_pow, ← Nat.shiftRight_eq_div_pow, ← Nat.shiftRight_eq_div_pow, Nat.shiftRight_and_distrib]
theorem turn_join {hi lo V S : Int} {Z b : Nat} (h1 : I32 hi) (h2 : I32 lo) (hz : Dv hi lo = Z) (hV : V = ((Z / 2 ^ b * 2 ^ b : Nat) : Int)) (hS : S = ((Z % 2 ^ b : Nat) : Int)) :
    bits .or .i32 (Wd (V / 4294967296)) (Wd (S / 4294967296)) = hi ∧ bits .or .i32 (Wd V) (Wd S) = lo ∧
    bits .and .i32 (Wd (V / 4294967296)) (Wd (S / 4294967296)) = 0 ∧ bits .and .i32 (Wd V) (Wd S) = 0 := by
  have hp := Dv_parts hi lo h1 h2
  rw [hz] at hp
  have d : ∀ X : Nat, (X : Int) / 4294967296 = ((X / 4294967296 : Nat) : Int) := fun X => by omega
  subst hV hS
  rw [d, d, bits_or_i32, bits_or_i32, bits_and_i32, bits_and_i32, or_div, and_div, parts_or, parts_and, ← d]
  exact ⟨hp.2, hp.1, rfl, rfl⟩
theorem sL_back {Z b : Nat} (h : Z < 18446744073709551616) : sL (sR (Z : Int) b) b = ((Z / 2 ^ b * 2 ^ b : Nat) : Int) := by
  unfold sL sR
  have e : (Z : Int) / 2 ^ b = ((Z / 2 ^ b : Nat) : Int) := by simp
  have e2 : ((Z / 2 ^ b : Nat) : Int) * 2 ^ b = ((Z / 2 ^ b * 2 ^ b : Nat) : Int) := by simp
  have := Nat.div_mul_le_self Z (2 ^ b)
  rw [e, e2]; omega
theorem sR_back {Z m : Nat} (hm : m ≤ 64) : sR (sL (Z : Int) m) m = ((Z % 2 ^ (64 - m) : Nat) : Int) := by
  unfold sL sR
  have e : (18446744073709551616 : Int) = 2 ^ m * 2 ^ (64 - m) := by rw [← pow_split hm, e2_64]
  have hp := pow2_pos m
  rw [e, Int.mul_comm (Z : Int), Int.mul_emod_mul_of_pos _ _ hp, Int.mul_ediv_cancel_left _ (by omega)]
  simp
theorem lz_lt {z : Int} (h0 : 0 ≤ z) (h1 : z < 18446744073709551616) (h : z ≠ 0) : 0 ≤ lzN z ∧ lzN z < 64 ∧ 9223372036854775808 ≤ z * 2 ^ (lzN z).toNat ∧ z * 2 ^ (lzN z).toNat < 18446744073709551616 := by
  unfold lzN
  rw [if_neg h]
  have hz : z.toNat ≠ 0 := by omega
  have hl := (Nat.log2_eq_iff (k := Nat.log2 z.toNat) hz).1 rfl
  have hlt : Nat.log2 z.toNat < 64 := (Nat.log2_lt hz).2 (by omega)
  generalize Nat.log2 z.toNat = g at hl hlt
  have e : ((63 : Int) - (g : Int)).toNat = 63 - g := by omega
  rw [e]
  refine ⟨by omega, by omega, ?_⟩
  have hz2 : z = (z.toNat : Int) := by omega
  have a1 : 2 ^ g * 2 ^ (63 - g) = 9223372036854775808 := by rw [← Nat.pow_add, show g + (63 - g) = 63 by omega]
  have a2 : 2 ^ (g + 1) * 2 ^ (63 - g) = 18446744073709551616 := by rw [← Nat.pow_add, show g + 1 + (63 - g) = 64 by omega]
  have b1 := Nat.mul_le_mul_right (2 ^ (63 - g)) hl.1
  have b2 := Nat.mul_lt_mul_of_pos_right hl.2 (Nat.two_pow_pos (63 - g))
  rw [a1] at b1
  rw [a2] at b2
  rw [hz2]
  have e3 : (z.toNat : Int) * 2 ^ (63 - g) = ((z.toNat * 2 ^ (63 - g) : Nat) : Int) := by simp
  rw [e3]; omega
theorem norm_back {hi lo : Int} (h1 : I32 hi) (h2 : I32 lo) (h : Dv hi lo ≠ 0) :
    0 ≤ lzN (Dv hi lo) ∧ lzN (Dv hi lo) < 64 ∧ lgNormH hi lo < 0 ∧ lgShrH (lgNormH hi lo) (lgNorm hi lo) (lzN (Dv hi lo)) = hi ∧ lgShr (lgNormH hi lo) (lgNorm hi lo) (lzN (Dv hi lo)) = lo := by
  have hp := Dv_parts hi lo h1 h2
  have hl := lz_lt (Dv_lo hi lo) (Dv_hi hi lo) h
  unfold lgNormH lgNorm
  rw [if_neg h, if_neg h]
  have hu : Uw (lzN (Dv hi lo)) = lzN (Dv hi lo) := by unfold Uw; omega
  have es : shlV (Dv hi lo) (lzN (Dv hi lo)) = Dv hi lo * 2 ^ (lzN (Dv hi lo)).toNat := by unfold shlV; rw [hu]; omega
  have hd : Dv (lgShlH hi lo (lzN (Dv hi lo))) (lgShl hi lo (lzN (Dv hi lo))) = Dv hi lo * 2 ^ (lzN (Dv hi lo)).toNat := by
    unfold lgShlH lgShl; rw [es]; exact Dv_split _ (by omega) hl.2.2.2
  have eb : shrV (Dv hi lo * 2 ^ (lzN (Dv hi lo)).toNat) (lzN (Dv hi lo)) = Dv hi lo := by
    unfold shrV; rw [hu]; exact Int.mul_ediv_cancel _ (by have := pow2_pos (lzN (Dv hi lo)).toNat; omega)
  refine ⟨hl.1, hl.2.1, ?_, ?_, ?_⟩
  · unfold lgShlH; rw [es]; unfold Wd; omega
  · unfold lgShrH; rw [hd, eb]; exact hp.2
  · unfold lgShr; rw [hd, eb]; exact hp.1
theorem Dv_zero {hi lo : Int} (h1 : I32 hi) (h2 : I32 lo) (h : Dv hi lo = 0) : hi = 0 ∧ lo = 0 := by
  unfold I32 at h1 h2; unfold Dv Uw at h; omega
theorem turn_laws {hi lo n bk : Int} (h1 : I32 hi) (h2 : I32 lo) (hb : bk = ((64 - min (Uw n).toNat 64 : Nat) : Int)) :
    bits .or .i32 (lgShlH (lgShrH hi lo bk) (lgShr hi lo bk) bk) (lgShrH (lgShlH hi lo n) (lgShl hi lo n) n) = hi ∧
    bits .or .i32 (lgShl (lgShrH hi lo bk) (lgShr hi lo bk) bk) (lgShr (lgShlH hi lo n) (lgShl hi lo n) n) = lo ∧
    bits .and .i32 (lgShlH (lgShrH hi lo bk) (lgShr hi lo bk) bk) (lgShrH (lgShlH hi lo n) (lgShl hi lo n) n) = 0 ∧
    bits .and .i32 (lgShl (lgShrH hi lo bk) (lgShr hi lo bk) bk) (lgShr (lgShlH hi lo n) (lgShl hi lo n) n) = 0 := by
  have z0 := Dv_lo hi lo
  have z1 := Dv_hi hi lo
  have hu : (Uw bk).toNat = 64 - min (Uw n).toNat 64 := by unfold Uw at *; omega
  obtain ⟨Z, hZ⟩ : ∃ Z : Nat, Dv hi lo = Z := ⟨_, (Int.toNat_of_nonneg z0).symm⟩
  have hd1 : Dv (lgShrH hi lo bk) (lgShr hi lo bk) = sR (Dv hi lo) (Uw bk).toNat := Dv_sR z0 z1 _
  have hd2 : Dv (lgShlH hi lo n) (lgShl hi lo n) = sL (Dv hi lo) (Uw n).toNat := Dv_sL _ _
  have hV : shlV (Dv (lgShrH hi lo bk) (lgShr hi lo bk)) bk = ((Z / 2 ^ (64 - min (Uw n).toNat 64) * 2 ^ (64 - min (Uw n).toNat 64) : Nat) : Int) := by
    rw [hd1, hZ, ← sL_back (by omega), ← hu]; rfl
  have hS : shrV (Dv (lgShlH hi lo n) (lgShl hi lo n)) n = ((Z % 2 ^ (64 - min (Uw n).toNat 64) : Nat) : Int) := by
    rw [hd2, hZ, ← sR_back (Nat.min_le_right _ _), sL_min, sR_min (sL_lo _ _) (sL_hi _ _)]; rfl
  exact turn_join h1 h2 hZ hV hS
theorem LongTurns_c (hi lo n : Int) (h1 : I32 hi) (h2 : I32 lo) (hn : I32 n) : Con Try.prog f_l02_LongTurns [.s (.int .i32 hi), .s (.int .i32 lo), .s (.int .i32 n)] [] (.ret (.t (.s (.bool true))) []) := by
  intro K hK
  have z0 := Dv_lo hi lo
  have z1 := Dv_hi hi lo
  have hp := Dv_parts hi lo h1 h2
  have eU : (if 64 < IntKind.u32.wrap n then 64 else IntKind.u32.wrap n) = min (Uw n) 64 := by
    rw [IntKind.wrap_u32]; unfold Uw; split <;> omega
  have hu0 := Uw_lo n
  refine enter fn_l02_LongTurns rfl nt_l02_LongTurns rfl rfl (fun φ w0 β0 F => ?_)
  refine c_run tt_ok ctAll_ok k_l02_LongTurns [] 60 (by kernel_rfl) ?_
  show WpC _ _ _ _ _
  refine c_loop (α := Nat) (fun k => (k : Int) ≤ min (Uw n) 64) (fun k => (min (Uw n) 64).toNat - k)
    (fun k => [(0, .t (.s (.int .i32 hi)), none), (1, .t (.s (.int .i32 lo)), none), (2, .t (.s (.int .i32 n)), none), (33, .t (.s (.int .u32 (min (Uw n) 64))), none), (34, .t (.s (.int .u32 k)), none),
      (7, .t (.s (.int .i32 (Wd (sL (Dv hi lo) k / 4294967296)))), none), (8, .t (.s (.int .i32 (Wd (sL (Dv hi lo) k)))), none), (9, .t (.s (.int .i32 (Wd (sR (Dv hi lo) k / 4294967296)))), none), (10, .t (.s (.int .i32 (Wd (sR (Dv hi lo) k)))), none)])
    (fun k => []) 0 ?_ ?_ ?_
  · show ((0 : Nat) : Int) ≤ min (Uw n) 64; omega
  · refine into [] ⟨⟨_, rfl, rfl⟩, ⟨_, rfl, rfl⟩, ⟨_, rfl, rfl⟩, ⟨_, rfl, fvi eU⟩, ⟨_, rfl, rfl⟩, ⟨_, rfl, fvi ?_⟩, ⟨_, rfl, fvi ?_⟩, ⟨_, rfl, fvi ?_⟩, ⟨_, rfl, fvi ?_⟩, trivial⟩ ⟨_, rfl, rfl⟩ rfl rfl rfl rfl
    · rw [sL_zero z0 z1]; exact hp.2.symm
    · rw [sL_zero z0 z1]; exact hp.1.symm
    · rw [sR_zero]; exact hp.2.symm
    · rw [sR_zero]; exact hp.1.symm
  · intro k hk
    refine c_run' tt_ok ctAll_ok k_l02_LongTurns [] 60 (by kernel_rfl) (by kernel_rfl) ?_
    refine ⟨fun h3 => ?_, fun h3 => ?_⟩
    · have h3' := of_decide_eq_true h3
      refine e_again (k+1) ?_ ?_
          (into [] ⟨⟨_, rfl, rfl⟩, ⟨_, rfl, rfl⟩, ⟨_, rfl, rfl⟩, ⟨_, rfl, rfl⟩, ⟨_, rfl, fvi ?_⟩, ⟨_, rfl, fvi ?_⟩, ⟨_, rfl, fvi ?_⟩, ⟨_, rfl, fvi ?_⟩, ⟨_, rfl, fvi ?_⟩, trivial⟩ ⟨_, rfl, rfl⟩ rfl rfl rfl rfl)
      · show ((k + 1 : Nat) : Int) ≤ min (Uw n) 64; omega
      · show (min (Uw n) 64).toNat - (k + 1) < (min (Uw n) 64).toNat - k; omega
      · rw [IntKind.wrap_u32]; omega
      · unfold lgShlH; rw [Dv_sL, shl1, sL_succ]
      · unfold lgShl; rw [Dv_sL, shl1, sL_succ]
      · unfold lgShrH; rw [Dv_sR z0 z1, shr1, sR_succ]
      · unfold lgShr; rw [Dv_sR z0 z1, shr1, sR_succ]
    · have h3' := of_decide_eq_false h3
      have hkm : k = min (Uw n).toNat 64 := by omega
      refine ⟨fun h4 => ?_, fun h4 => ⟨fun h5 => ?_, fun h5 => ⟨fun h6 => ⟨fun _ => trivial, ?_⟩, fun h6 => ⟨fun _ => trivial, ?_⟩⟩⟩⟩
      · exfalso
        subst hkm
        rw [sL_min, sR_min z0 z1] at h4
        have e1 : Wd (sL (Dv hi lo) (Uw n).toNat / 4294967296) = lgShlH hi lo n := rfl
        have e2 : Wd (sL (Dv hi lo) (Uw n).toNat) = lgShl hi lo n := rfl
        have e3 : Wd (sR (Dv hi lo) (Uw n).toNat / 4294967296) = lgShrH hi lo n := rfl
        have e4 : Wd (sR (Dv hi lo) (Uw n).toNat) = lgShr hi lo n := rfl
        rw [e1, e2, e3, e4] at h4
        simp at h4
      · exfalso
        have eb : IntKind.i32.wrap (IntKind.u32.wrap (64 - if 64 < IntKind.u32.wrap n then 64 else IntKind.u32.wrap n)) = ((64 - min (Uw n).toNat 64 : Nat) : Int) := by
          rw [eU, IntKind.wrap_i32, IntKind.wrap_u32]; omega
        have hl := turn_laws h1 h2 eb
        rw [hl.1, hl.2.1, hl.2.2.1, hl.2.2.2] at h5
        simp at h5
      · refine fin_k tt_ok (rs := rs_l02_LongTurns) rfl rfl hK [] (t1b ?_) rfl rfl rfl rfl rfl
        have h6' := of_decide_eq_true h6
        by_cases hz : Dv hi lo = 0
        · have e := Dv_zero h1 h2 hz
          have e3 : lgNormH hi lo = 0 := by unfold lgNormH; rw [if_pos hz]
          have e4 : lgNorm hi lo = 0 := by unfold lgNorm; rw [if_pos hz]
          rw [e3, e4, e.1, e.2]; rfl
        · have := norm_back h1 h2 hz; omega
      · refine fin_k tt_ok (rs := rs_l02_LongTurns) rfl rfl hK [] (t1b ?_) rfl rfl rfl rfl rfl
        have h6' := of_decide_eq_false h6
        by_cases hz : Dv hi lo = 0
        · rw [hz] at h6'; exact absurd rfl h6'
        · have e := norm_back h1 h2 hz
          rw [e.2.2.2.1, e.2.2.2.2]
          simp [e.1, e.2.1, e.2.2.1]
end Go.Proofs

namespace Go.Proofs
open Go Go.Sx
set_option maxRecDepth 10000
def intsW (l : List Int) : List Value := l.map (Value.int .i32)
@[simp] theorem intsW_length (l : List Int) : (intsW l).length = l.length := by simp [intsW]
theorem intsW_append (a b : List Int) : intsW (a ++ b) = intsW a ++ intsW b := by simp [intsW]
theorem intsW_one (l : List Int) : ∀ u ∈ intsW l, u.oneCell' = true := by
  intro u hu; obtain ⟨n, _, rfl⟩ := List.mem_map.1 hu; rfl
theorem intsW_get {l : List Int} {j : Nat} (h : j < l.length) : (intsW l)[j]? = some (SV.int .i32 (l.getD j 0)).cv := by
  simp [intsW, h, SV.cv, SV.den]
theorem intsW_at {l : List Int} {j : Nat} (h : j < l.length) : (intsW l)[0 + j * (0 + 1)]? = some (SV.int .i32 (l.getD j 0)).cv := by
  rw [Nat.zero_add, Nat.zero_add, Nat.mul_one]; exact intsW_get h
/-- The carry ahead of a place, and the words that come out. -/
def cr (x : List Int) (d c : Int) : Nat → Int
  | 0 => c
  | i + 1 => lgMulH (x.getD i 0) d (cr x d c i)
def yl (x : List Int) (d c : Int) (i : Nat) : List Int := (List.range i).map fun j => lgMul (x.getD j 0) d (cr x d c j)
@[simp] theorem yl_length (x : List Int) (d c : Int) (i : Nat) : (yl x d c i).length = i := by simp [yl]
theorem yl_succ (x : List Int) (d c : Int) (i : Nat) : yl x d c (i + 1) = yl x d c i ++ [lgMul (x.getD i 0) d (cr x d c i)] := by simp [yl, List.range_succ]
theorem yl_get {x : List Int} {d c : Int} {n j : Nat} (h : j < n) : (yl x d c n).getD j 0 = lgMul (x.getD j 0) d (cr x d c j) := by simp [yl, h]
theorem cr_i32 {x : List Int} {d c : Int} (hc : I32 c) : ∀ i, I32 (cr x d c i)
  | 0 => hc
  | i + 1 => Wd_i32 _
theorem cr_lt {x : List Int} {d c : Int} (h : Uw c < Uw d) : ∀ i, Uw (cr x d c i) < Uw d
  | 0 => h
  | i + 1 => by
    have := mul_over (a := x.getD i 0) (cr_lt (x := x) h i)
    unfold lgDivO at this
    have := of_decide_eq_false this
    show Uw (lgMulH (x.getD i 0) d (cr x d c i)) < Uw d
    omega
end Go.Proofs

namespace Go.Proofs
open Go Go.Sx
set_option maxRecDepth 10000
theorem LongWhole_t (x : List Int) (cap : Nat) (d c : Int) (hx : ∀ w ∈ x, I32 w) (hcap : x.length ≤ cap) (hd : I32 d) (hc : I32 c) : Con Try.prog f_l02_LongWhole [.s (.sl 0 0 x.length cap), .s (.int .i32 d), .s (.int .i32 c)] [.view (intsW x)] (.ret (.t (.s (.bool true))) [.view (intsW x)]) := by
  intro K hK
  refine enter fn_l02_LongWhole rfl nt_l02_LongWhole rfl rfl (fun φ w0 β0 F => ?_)
  refine c_run tt_ok ctAll_ok k_l02_LongWhole [] 60 (by kernel_rfl) ?_
  refine ⟨fun h1 => ⟨trivial, ?_⟩, fun h1 => ?_⟩
  · exact fin_k tt_ok (rs := rs_l02_LongWhole) rfl rfl hK [0] rfl rfl rfl rfl rfl rfl
  have hxl : x.length ≤ 40 ∧ d ≠ 0 := by
    by_cases h : (x.length : Int) > 40
    · simp [h] at h1
    · simp [h] at h1; exact ⟨by omega, h1⟩
  have hd0 : 0 < Uw d := by have h := hxl.2; unfold I32 at hd; unfold Uw; omega
  have hlt0 : decide (IntKind.u32.wrap c < IntKind.u32.wrap d) = decide (Uw c < Uw d) := by rw [IntKind.wrap_u32, IntKind.wrap_u32]; rfl
  refine ⟨fun h2 => ?_, fun h2 => ?_⟩
  · obtain ⟨c', hq⟩ : ∃ c', IntKind.i32.wrap ((IntKind.u32.wrap c).tmod (IntKind.u32.wrap d)) = c' := ⟨_, rfl⟩
    have hlt : Uw c' < Uw d ∧ I32 c' := by
      subst hq
      rw [IntKind.wrap_u32, IntKind.wrap_u32, wrapW]
      refine ⟨?_, Wd_i32 _⟩
      rw [Int.tmod_eq_emod_of_nonneg (by omega), Uw_Wd]
      show Uw c % Uw d % 4294967296 < Uw d
      have := Int.emod_lt_of_pos (Uw c) hd0
      have := Int.emod_nonneg (Uw c) (show Uw d ≠ 0 by omega)
      have := Uw_hi d
      omega
    obtain ⟨hlt, hc'⟩ := hlt
    refine ⟨?_, 0, x.length + 1, ⟨rfl, wrapSucc (by omega), by omega, by simp only [maxLen]; omega, by omega⟩, ?_⟩
    · rw [IntKind.wrap_u32]; show Uw d ≠ 0; omega
    · show WpC _ _ _ _ _
      refine c_loop (α := Nat × Nat) (fun p => p.1 ≤ x.length ∧ p.1 ≤ p.2) (fun p => x.length - p.1)
        (fun p => [(0, .t (.s (.sl 0 0 x.length cap)), none), (1, .t (.s (.int .i32 d)), none), (2, .t (.s (.int .i32 c')), none), (7, .t (.s (.sl 1 0 p.1 p.2)), none), (8, .t (.s (.int .i32 (cr x d c' p.1))), none), (41, .t (.s (.sl 0 0 x.length cap)), none), (42, .t (.s (.int .i64 (x.length : Int))), none), (43, .t (.s (.int .i64 (p.1 : Int))), none)])
        (fun p => [.view (intsW x), .own 21 1 p.2 (intsW (yl x d c' p.1))]) (0, x.length + 1) ⟨Nat.zero_le _, Nat.zero_le _⟩ ?_ ?_
      · exact into [0, 1] ⟨⟨_, rfl, rfl⟩, ⟨_, rfl, rfl⟩, ⟨_, rfl, fvi hq⟩, ⟨_, rfl, rfl⟩, ⟨_, rfl, fvi hq⟩, ⟨_, rfl, rfl⟩, ⟨_, rfl, rfl⟩, ⟨_, rfl, rfl⟩, trivial⟩ ⟨_, rfl, rfl⟩ rfl rfl rfl rfl
      · rintro ⟨i, k⟩ ⟨hi, hk⟩
        simp only at hi hk
        dsimp only
        refine c_run' tt_ok ctAll_ok k_l02_LongWhole [] 60 (by kernel_rfl) (by kernel_rfl) ?_
        refine ⟨fun h3 => ?_, fun h3 => ?_⟩
        · have h3' := of_decide_eq_true h3
          refine ⟨i, ⟨rfl, by omega, by simp; omega⟩, .int .i32 (x.getD i 0), rfl, intsW_at (by omega), ?_⟩
          refine ⟨⟨rfl, by simp, Nat.le_refl _, one_u rfl, by simp only [maxLen]; omega, by omega⟩, fun c1 hc1 hc2 => ?_⟩
          refine e_again (i + 1, c1) ⟨show i + 1 ≤ x.length by omega, hc1⟩ (show x.length - (i + 1) < x.length - i by omega)
            (into [0, 3] ⟨⟨_, rfl, rfl⟩, ⟨_, rfl, rfl⟩, ⟨_, rfl, rfl⟩, ⟨_, rfl, rfl⟩, ⟨_, rfl, rfl⟩, ⟨_, rfl, rfl⟩, ⟨_, rfl, rfl⟩, ⟨_, rfl, fvi (wrapSucc (by omega))⟩, trivial⟩ ⟨_, rfl, ?_⟩ rfl rfl rfl rfl)
          rw [yl_succ, intsW_append]; rfl
        · have hin : i = x.length := by have := of_decide_eq_false h3; omega
          subst hin
          show WpC _ _ _ _ _
          refine c_loop (α := Nat) (fun j => j ≤ x.length) (fun j => j)
            (fun j => [(0, .t (.s (.sl 0 0 x.length cap)), none), (1, .t (.s (.int .i32 d)), none), (2, .t (.s (.int .i32 c')), none), (7, .t (.s (.sl 1 0 x.length k)), none), (13, .t (.s (.int .i32 (cr x d c' j))), none), (14, .t (.s (.int .i64 ((j : Int) - 1))), none)])
            (fun j => [.view (intsW x), .own 21 1 k (intsW (yl x d c' x.length))]) x.length (Nat.le_refl _) ?_ ?_
          · exact into [0, 1] ⟨⟨_, rfl, rfl⟩, ⟨_, rfl, rfl⟩, ⟨_, rfl, rfl⟩, ⟨_, rfl, rfl⟩, ⟨_, rfl, rfl⟩, ⟨_, rfl, fvi (wrap64 (by omega) (by omega))⟩, trivial⟩ ⟨_, rfl, rfl⟩ rfl rfl rfl rfl
          · intro j hj
            refine c_run' tt_ok ctAll_ok k_l02_LongWhole [] 60 (by kernel_rfl) (by kernel_rfl) ?_
            refine ⟨fun h4 => ?_, fun h4 => ?_⟩
            · have h4' := of_decide_eq_true h4
              obtain ⟨i, rfl⟩ : ∃ i, j = i + 1 := ⟨j - 1, by omega⟩
              refine ⟨i, ⟨by omega, by omega, by simp; omega⟩, .int .i32 (lgMul (x.getD i 0) d (cr x d c' i)), rfl, ?_, fun o => ?_, fun o => ?_⟩
              · have := intsW_at (l := yl x d c' x.length) (j := i) (by simp; omega)
                rw [yl_get (by omega)] at this
                exact this
              · exfalso
                have := mul_over (a := x.getD i 0) (cr_lt (x := x) hlt i)
                rw [show lgDivO (cr x d c' (i + 1)) d = false from this] at o
                cases o
              · have hI : I32 (x.getD i 0) := by
                  have : x.getD i 0 ∈ x := by
                    rw [List.getD_eq_getElem?_getD, List.getElem?_eq_getElem (by omega)]; exact List.getElem_mem _
                  exact hx _ this
                have hm := mul_back (a := x.getD i 0) hI (cr_i32 (x := x) (d := d) hc' i) (cr_lt (x := x) hlt i)
                refine ⟨i, fun _ => ⟨by omega, by omega, by simp; omega⟩, .int .i32 (x.getD i 0), rfl, fun _ => intsW_at (by omega), fun h5 => ?_, fun h5 => ?_⟩
                · exfalso
                  rw [show lgDiv (cr x d c' (i + 1)) (lgMul (x.getD i 0) d (cr x d c' i)) d = x.getD i 0 from hm.1] at h5
                  simp at h5
                · refine e_again i (show i ≤ x.length by omega) (show i < i + 1 by omega)
                    (into [0, 1] ⟨⟨_, rfl, rfl⟩, ⟨_, rfl, rfl⟩, ⟨_, rfl, rfl⟩, ⟨_, rfl, rfl⟩, ⟨_, rfl, fvi hm.2⟩, ⟨_, rfl, fvi ?_⟩, trivial⟩ ⟨_, rfl, rfl⟩ rfl rfl rfl rfl)
                  show IntKind.i64.wrap (((i + 1 : Nat) : Int) - 1 - 1) = (i : Int) - 1
                  rw [wrap64 (by omega) (by omega)]; omega
            · have hj0 : j = 0 := by have := of_decide_eq_false h4; omega
              subst hj0
              refine ⟨fun _ => trivial, ?_⟩
              refine fin_k tt_ok (rs := rs_l02_LongWhole) rfl rfl hK [0] (t1b ?_) rfl rfl rfl rfl rfl
              show (bif c' == c' then true else false) = true
              simp
  · obtain ⟨c', hq⟩ : ∃ c', c = c' := ⟨_, rfl⟩
    have hlt : Uw c' < Uw d := by
      rw [hlt0] at h2; subst hq; simpa using h2
    have hc' : I32 c' := hq ▸ hc
    refine ⟨0, x.length + 1, ⟨rfl, wrapSucc (by omega), by omega, by simp only [maxLen]; omega, by omega⟩, ?_⟩
    show WpC _ _ _ _ _
    refine c_loop (α := Nat × Nat) (fun p => p.1 ≤ x.length ∧ p.1 ≤ p.2) (fun p => x.length - p.1)
      (fun p => [(0, .t (.s (.sl 0 0 x.length cap)), none), (1, .t (.s (.int .i32 d)), none), (2, .t (.s (.int .i32 c')), none), (7, .t (.s (.sl 1 0 p.1 p.2)), none), (8, .t (.s (.int .i32 (cr x d c' p.1))), none), (41, .t (.s (.sl 0 0 x.length cap)), none), (42, .t (.s (.int .i64 (x.length : Int))), none), (43, .t (.s (.int .i64 (p.1 : Int))), none)])
      (fun p => [.view (intsW x), .own 21 1 p.2 (intsW (yl x d c' p.1))]) (0, x.length + 1) ⟨Nat.zero_le _, Nat.zero_le _⟩ ?_ ?_
    · exact into [0, 1] ⟨⟨_, rfl, rfl⟩, ⟨_, rfl, rfl⟩, ⟨_, rfl, fvi hq⟩, ⟨_, rfl, rfl⟩, ⟨_, rfl, fvi hq⟩, ⟨_, rfl, rfl⟩, ⟨_, rfl, rfl⟩, ⟨_, rfl, rfl⟩, trivial⟩ ⟨_, rfl, rfl⟩ rfl rfl rfl rfl
    · rintro ⟨i, k⟩ ⟨hi, hk⟩
      simp only at hi hk
      dsimp only
      refine c_run' tt_ok ctAll_ok k_l02_LongWhole [] 60 (by kernel_rfl) (by kernel_rfl) ?_
      refine ⟨fun h3 => ?_, fun h3 => ?_⟩
      · have h3' := of_decide_eq_true h3
        refine ⟨i, ⟨rfl, by omega, by simp; omega⟩, .int .i32 (x.getD i 0), rfl, intsW_at (by omega), ?_⟩
        refine ⟨⟨rfl, by simp, Nat.le_refl _, one_u rfl, by simp only [maxLen]; omega, by omega⟩, fun c1 hc1 hc2 => ?_⟩
        refine e_again (i + 1, c1) ⟨show i + 1 ≤ x.length by omega, hc1⟩ (show x.length - (i + 1) < x.length - i by omega)
          (into [0, 3] ⟨⟨_, rfl, rfl⟩, ⟨_, rfl, rfl⟩, ⟨_, rfl, rfl⟩, ⟨_, rfl, rfl⟩, ⟨_, rfl, rfl⟩, ⟨_, rfl, rfl⟩, ⟨_, rfl, rfl⟩, ⟨_, rfl, fvi (wrapSucc (by omega))⟩, trivial⟩ ⟨_, rfl, ?_⟩ rfl rfl rfl rfl)
        rw [yl_succ, intsW_append]; rfl
      · have hin : i = x.length := by have := of_decide_eq_false h3; omega
        subst hin
        show WpC _ _ _ _ _
        refine c_loop (α := Nat) (fun j => j ≤ x.length) (fun j => j)
          (fun j => [(0, .t (.s (.sl 0 0 x.length cap)), none), (1, .t (.s (.int .i32 d)), none), (2, .t (.s (.int .i32 c')), none), (7, .t (.s (.sl 1 0 x.length k)), none), (13, .t (.s (.int .i32 (cr x d c' j))), none), (14, .t (.s (.int .i64 ((j : Int) - 1))), none)])
          (fun j => [.view (intsW x), .own 21 1 k (intsW (yl x d c' x.length))]) x.length (Nat.le_refl _) ?_ ?_
        · exact into [0, 1] ⟨⟨_, rfl, rfl⟩, ⟨_, rfl, rfl⟩, ⟨_, rfl, rfl⟩, ⟨_, rfl, rfl⟩, ⟨_, rfl, rfl⟩, ⟨_, rfl, fvi (wrap64 (by omega) (by omega))⟩, trivial⟩ ⟨_, rfl, rfl⟩ rfl rfl rfl rfl
        · intro j hj
          refine c_run' tt_ok ctAll_ok k_l02_LongWhole [] 60 (by kernel_rfl) (by kernel_rfl) ?_
          refine ⟨fun h4 => ?_, fun h4 => ?_⟩
          · have h4' := of_decide_eq_true h4
            obtain ⟨i, rfl⟩ : ∃ i, j = i + 1 := ⟨j - 1, by omega⟩
            refine ⟨i, ⟨by omega, by omega, by simp; omega⟩, .int .i32 (lgMul (x.getD i 0) d (cr x d c' i)), rfl, ?_, fun o => ?_, fun o => ?_⟩
            · have := intsW_at (l := yl x d c' x.length) (j := i) (by simp; omega)
              rw [yl_get (by omega)] at this
              exact this
            · exfalso
              have := mul_over (a := x.getD i 0) (cr_lt (x := x) hlt i)
              rw [show lgDivO (cr x d c' (i + 1)) d = false from this] at o
              cases o
            · have hI : I32 (x.getD i 0) := by
                have : x.getD i 0 ∈ x := by
                  rw [List.getD_eq_getElem?_getD, List.getElem?_eq_getElem (by omega)]; exact List.getElem_mem _
                exact hx _ this
              have hm := mul_back (a := x.getD i 0) hI (cr_i32 (x := x) (d := d) hc' i) (cr_lt (x := x) hlt i)
              refine ⟨i, fun _ => ⟨by omega, by omega, by simp; omega⟩, .int .i32 (x.getD i 0), rfl, fun _ => intsW_at (by omega), fun h5 => ?_, fun h5 => ?_⟩
              · exfalso
                rw [show lgDiv (cr x d c' (i + 1)) (lgMul (x.getD i 0) d (cr x d c' i)) d = x.getD i 0 from hm.1] at h5
                simp at h5
              · refine e_again i (show i ≤ x.length by omega) (show i < i + 1 by omega)
                  (into [0, 1] ⟨⟨_, rfl, rfl⟩, ⟨_, rfl, rfl⟩, ⟨_, rfl, rfl⟩, ⟨_, rfl, rfl⟩, ⟨_, rfl, fvi hm.2⟩, ⟨_, rfl, fvi ?_⟩, trivial⟩ ⟨_, rfl, rfl⟩ rfl rfl rfl rfl)
                show IntKind.i64.wrap (((i + 1 : Nat) : Int) - 1 - 1) = (i : Int) - 1
                rw [wrap64 (by omega) (by omega)]; omega
          · have hj0 : j = 0 := by have := of_decide_eq_false h4; omega
            subst hj0
            refine ⟨fun _ => trivial, ?_⟩
            refine fin_k tt_ok (rs := rs_l02_LongWhole) rfl rfl hK [0] (t1b ?_) rfl rfl rfl rfl rfl
            show (bif c' == c' then true else false) = true
            simp
end Go.Proofs

namespace Go.Proofs
open Go Go.Sx
set_option maxRecDepth 10000
def spSum : List TV → Option (Prop × FV)
  | [.s (.int .i32 a), .s (.int .i32 b), .s (.int .i32 c)] => some (True, .tup [.s (.int .i32 (lgSum a b c)), .s (.int .i32 (lgSumC a b c))])
  | _ => none
def spDiff : List TV → Option (Prop × FV)
  | [.s (.int .i32 a), .s (.int .i32 b), .s (.int .i32 c)] => some (True, .tup [.s (.int .i32 (lgDiff a b c)), .s (.int .i32 (lgDiffC a b c))])
  | _ => none
theorem ceSum : CEok Try.prog f_long_Sum spSum := ⟨cal_long_Sum, fun args p v h hp => by
  unfold spSum at h; split at h
  · cases h; exact (Sum_c _ _ _).pure
  · cases h⟩
theorem ceDiff : CEok Try.prog f_long_Diff spDiff := ⟨cal_long_Diff, fun args p v h hp => by
  unfold spDiff at h; split at h
  · cases h; exact (Diff_c _ _ _).pure
  · cases h⟩
noncomputable abbrev ctCh : CT := [(f_l02_awake, .pure spAwake), (f_long_Sum, .pure spSum), (f_long_Diff, .pure spDiff)]
theorem ctCh_ok : CTok Try.prog ctCh := ⟨ceAwake, ceSum, ceDiff, trivial⟩
def pad (l : List Int) (n : Nat) : List Int := l ++ List.replicate (n - l.length) 0
theorem pad_length {l : List Int} {n : Nat} (h : l.length ≤ n) : (pad l n).length = n := by simp [pad]; omega
theorem pad_set {l : List Int} {n : Nat} (h : l.length ≤ n) : setV (intsW (List.replicate n 0)) 0 (seg (intsW l) 0 l.length) = intsW (pad l n) := by
  have e : seg (intsW l) 0 l.length = intsW l := by
    unfold seg
    rw [List.drop_zero, List.take_of_length_le (by simp)]
  rw [e]
  simp [setV, pad, intsW]
theorem pad_i32 {l : List Int} {n : Nat} (h : ∀ w ∈ l, I32 w) : ∀ w ∈ pad l n, I32 w := by
  intro w hw
  rcases List.mem_append.1 hw with hw | hw
  · exact h w hw
  · rw [(List.mem_replicate.1 hw).2]; exact ⟨by decide, by decide⟩
theorem chain_laws {a b c : Int} (ha : I32 a) (hc : c = 0 ∨ c = 1) : lgSum b a c = lgSum a b c ∧ lgSumC b a c = lgSumC a b c ∧ lgDiff (lgSum a b c) b c = a ∧ lgDiffC (lgSum a b c) b c = lgSumC a b c ∧ (lgSumC a b c = 0 ∨ lgSumC a b c = 1) := by
  unfold I32 at ha
  unfold lgSum lgSumC lgDiff lgDiffC Wd Uw
  rcases hc with rfl | rfl <;> omega
theorem LongChain_t (x y : List Int) (cx cy : Nat) (hx : ∀ w ∈ x, I32 w) (hy : ∀ w ∈ y, I32 w) : Con Try.prog f_l02_LongChain [.s (.sl 0 0 x.length cx), .s (.sl 1 0 y.length cy)] [.view (intsW x), .view (intsW y)] (.ret (.t (.s (.bool true))) [.view (intsW x), .view (intsW y)]) := by
  intro K hK
  refine enter fn_l02_LongChain rfl nt_l02_LongChain rfl rfl (fun φ w0 β0 F => ?_)
  refine c_run tt_ok ctCh_ok k_l02_LongChain [] 60 (by kernel_rfl) ?_
  refine ⟨fun h1 => ⟨trivial, ?_⟩, fun h1 => ?_⟩
  · exact fin_k tt_ok (rs := rs_l02_LongChain) rfl rfl hK [0, 1] rfl rfl rfl rfl rfl rfl
  have hl : x.length ≤ 40 ∧ y.length ≤ 40 := by
    by_cases h : (x.length : Int) > 40
    · simp [h] at h1
    · simp [h] at h1; omega
  obtain ⟨n, hn⟩ : ∃ n : Nat, n = max x.length y.length := ⟨_, rfl⟩
  show WpC _ _ _ _ _
  refine c_ways tt_ok ctCh_ok k_l02_LongChain rfl rfl ?_
  have hz : List.replicate n (Value.int .i32 0) = intsW (List.replicate n 0) := by simp [intsW]
  refine ⟨⟨n, ⟨?h1, ?h1, ?h2, ?h3⟩, n, ⟨?h1, ?h1, ?h2, ?h3⟩, WpE.into (fr' := [(0, .t (.s (.sl 0 0 x.length cx)), none), (1, .t (.s (.sl 1 0 y.length cy)), none), (5, .t (.s (.int .i64 (n : Int))), none), (6, .t (.s (.sl 2 0 n n)), none), (7, .t (.s (.sl 3 0 n n)), none)])
      (σ' := [.view (intsW x), .view (intsW y), .own 21 1 n (intsW (List.replicate n 0)), .own 21 1 n (intsW (List.replicate n 0))])
      (into [0, 1, 2, 3] ⟨⟨_, rfl, rfl⟩, ⟨_, rfl, rfl⟩, ⟨_, rfl, fvi ?h1⟩, ⟨_, rfl, rfl⟩, ⟨_, rfl, rfl⟩, trivial⟩ ⟨_, rfl, ?h4⟩ rfl rfl rfl rfl) ?key⟩,
    ⟨n, ⟨?h1, ?h1, ?h2, ?h3⟩, n, ⟨?h1, ?h1, ?h2, ?h3⟩, WpE.into (fr' := [(0, .t (.s (.sl 0 0 x.length cx)), none), (1, .t (.s (.sl 1 0 y.length cy)), none), (5, .t (.s (.int .i64 (n : Int))), none), (6, .t (.s (.sl 2 0 n n)), none), (7, .t (.s (.sl 3 0 n n)), none)])
      (σ' := [.view (intsW x), .view (intsW y), .own 21 1 n (intsW (List.replicate n 0)), .own 21 1 n (intsW (List.replicate n 0))])
      (into [0, 1, 3, 2] ⟨⟨_, rfl, rfl⟩, ⟨_, rfl, rfl⟩, ⟨_, rfl, fvi ?h1⟩, ⟨_, rfl, rfl⟩, ⟨_, rfl, rfl⟩, trivial⟩ ⟨_, rfl, ?h5⟩ rfl rfl rfl rfl) ?key⟩⟩
  case h1 => split <;> omega
  case h2 => simp only [maxLen]; omega
  case h3 => omega
  case h4 => rw [← hz]; rfl
  case h5 => rw [← hz]; rfl
  case key =>
    refine e_run tt_ok ctCh_ok k_l02_LongChain [] 60 (by kernel_rfl) ?_
    refine ⟨x.length, ⟨by omega, by simp; omega, by simp, seg_one _ _ _ (intsW_one _)⟩, ?_⟩
    refine ⟨y.length, ⟨by omega, by simp; omega, by simp, seg_one _ _ _ (intsW_one _)⟩, ?_⟩
    show WpC _ _ _ _ _
    refine c_loop (α := Nat × Int) (fun p => p.1 ≤ n ∧ (p.2 = 0 ∨ p.2 = 1)) (fun p => n - p.1)
      (fun p => [(6, .t (.s (.sl 2 0 n n)), none), (7, .t (.s (.sl 3 0 n n)), none), (8, .t (.s (.int .i32 p.2)), none), (9, .t (.s (.int .i32 p.2)), none), (10, .t (.s (.int .i32 p.2)), none), (42, .t (.s (.int .i64 (n : Int))), none), (43, .t (.s (.int .i64 (p.1 : Int))), none)])
      (fun p => [.view (intsW x), .view (intsW y), .own 21 1 n (intsW (pad x n)), .own 21 1 n (intsW (pad y n))]) (0, 0) ⟨Nat.zero_le _, .inl rfl⟩ ?_ ?_
    · refine into [0, 1, 2, 3] ⟨⟨_, rfl, rfl⟩, ⟨_, rfl, rfl⟩, ⟨_, rfl, rfl⟩, ⟨_, rfl, rfl⟩, ⟨_, rfl, rfl⟩, ⟨_, rfl, rfl⟩, ⟨_, rfl, rfl⟩, trivial⟩ ⟨_, rfl, ?_⟩ rfl rfl rfl rfl
      rw [← pad_set (l := x) (n := n) (by omega), ← pad_set (l := y) (n := n) (by omega)]; rfl
    · rintro ⟨i, c⟩ ⟨hi, hc⟩
      simp only at hi hc
      dsimp only
      have hpx := pad_length (l := x) (n := n) (by omega)
      have hpy := pad_length (l := y) (n := n) (by omega)
      refine c_run' tt_ok ctCh_ok k_l02_LongChain [] 60 (by kernel_rfl) (by kernel_rfl) ?_
      refine ⟨fun h3 => ?_, fun h3 => ?_⟩
      · have h3' := of_decide_eq_true h3
        have hI : I32 ((pad x n).getD i 0) := by
          have : (pad x n).getD i 0 ∈ pad x n := by
            rw [List.getD_eq_getElem?_getD, List.getElem?_eq_getElem (by omega)]; exact List.getElem_mem _
          exact pad_i32 hx _ this
        have gx := intsW_at (l := pad x n) (j := i) (by omega)
        have gy := intsW_at (l := pad y n) (j := i) (by omega)
        refine ⟨i, ⟨rfl, by omega, by simp; omega⟩, .int .i32 ((pad x n).getD i 0), rfl, gx, i, ⟨rfl, by omega, by simp; omega⟩, .int .i32 ((pad y n).getD i 0), rfl, gy, trivial, ?_⟩
        refine ⟨i, ⟨rfl, by omega, by simp; omega⟩, .int .i32 ((pad y n).getD i 0), rfl, gy, i, ⟨rfl, by omega, by simp; omega⟩, .int .i32 ((pad x n).getD i 0), rfl, gx, trivial, ?_⟩
        refine ⟨i, ⟨rfl, by omega, by simp; omega⟩, .int .i32 ((pad y n).getD i 0), rfl, gy, trivial, ?_⟩
        refine ⟨i, fun _ => ⟨rfl, by omega, by simp; omega⟩, .int .i32 ((pad x n).getD i 0), rfl, fun _ => gx, ?_⟩
        clear gx gy
        generalize (pad x n).getD i 0 = a at *
        generalize (pad y n).getD i 0 = b at *
        have hc' := chain_laws (b := b) hI hc
        refine ⟨fun h5 => ?_, fun h5 => ?_⟩
        · exfalso
          rw [hc'.1, hc'.2.2.1, hc'.2.2.2.1] at h5
          rcases hc'.2.2.2.2 with e | e <;> rw [e] at h5 <;> simp at h5
        · refine e_again (i + 1, lgSumC a b c) ⟨show i + 1 ≤ n by omega, hc'.2.2.2.2⟩ (show n - (i + 1) < n - i by omega)
            (into [0, 1, 2, 3] ⟨⟨_, rfl, rfl⟩, ⟨_, rfl, rfl⟩, ⟨_, rfl, rfl⟩, ⟨_, rfl, fvi hc'.2.1⟩, ⟨_, rfl, fvi hc'.2.2.2.1⟩, ⟨_, rfl, rfl⟩, ⟨_, rfl, fvi (wrapSucc (by omega))⟩, trivial⟩ ⟨_, rfl, rfl⟩ rfl rfl rfl rfl)
      · refine ⟨fun _ => trivial, ?_⟩
        exact fin_k tt_ok (rs := rs_l02_LongChain) rfl rfl hK [0, 1] (t1b (by simp)) rfl rfl rfl rfl rfl
end Go.Proofs
