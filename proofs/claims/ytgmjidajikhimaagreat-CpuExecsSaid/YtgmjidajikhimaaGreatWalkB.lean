/- The walk of layer 2 (long): each function once. -/
import Derived.Test.YtgmjidajikhimaaGreatSxC
import Derived.Test.YtgmjidajikhimaaGreatTt

namespace Go.Proofs.L2
open Go Go.Sx
set_option maxRecDepth 10000

noncomputable abbrev ctA : CT := [(f_math_bits_Add32, in_math_bits_Add32 []), (f_math_bits_Sub32, in_math_bits_Sub32 []), (f_long_signed, in_long_signed []), (f_long_split, in_long_split [])]
theorem ctA_ok : CTok Tryz.prog ctA := ⟨in_math_bits_Add32_ok trivial, in_math_bits_Sub32_ok trivial, in_long_signed_ok trivial, in_long_split_ok trivial, trivial⟩

theorem Sum_c (a b c : Int) : Con Tryz.prog f_long_Sum [.s (.int .i32 a), .s (.int .i32 b), .s (.int .i32 c)] [] (.ret (.tup [.s (.int .i32 (lgSum a b c)), .s (.int .i32 (lgSumC a b c))]) []) := by
  intro K hK
  refine enter fn_long_Sum rfl nt_long_Sum rfl rfl (fun φ w0 β0 F => ?_)
  refine c_run tt_ok ctA_ok k_long_Sum [] 60 (by kernel_rfl) ?_
  refine fin_k tt_ok (rs := rs_long_Sum) rfl rfl hK [] (t2 ?_ ?_) rfl rfl rfl rfl rfl
  · simp only [and1_i32, IntKind.wrap_u32, IntKind.wrap_u64, IntKind.wrap_i32, lgSum, Wd]; omega
  · simp only [and1_i32, fdiv32u, IntKind.wrap_u32, IntKind.wrap_u64, IntKind.wrap_i32, lgSumC, Uw]; omega

theorem Diff_c (a b c : Int) : Con Tryz.prog f_long_Diff [.s (.int .i32 a), .s (.int .i32 b), .s (.int .i32 c)] [] (.ret (.tup [.s (.int .i32 (lgDiff a b c)), .s (.int .i32 (lgDiffC a b c))]) []) := by
  intro K hK
  refine enter fn_long_Diff rfl nt_long_Diff rfl rfl (fun φ w0 β0 F => ?_)
  refine c_run tt_ok ctA_ok k_long_Diff [] 60 (by kernel_rfl) ?_
  refine fin_k tt_ok (rs := rs_long_Diff) rfl rfl hK [] (t2 ?_ ?_) rfl rfl rfl rfl rfl
  · simp only [and1_i32, IntKind.wrap_u32, IntKind.wrap_i32, lgDiff, Wd]; omega
  · rw [fdiv31u, borrow32 _ _ (c % 2)]
    · simp only [IntKind.wrap_u32, IntKind.wrap_i32, lgDiffC, Uw]; omega
    · rw [IntKind.wrap_u32]; omega
    · rw [IntKind.wrap_u32]; omega
    · rw [IntKind.wrap_u32]; omega
    · rw [IntKind.wrap_u32]; omega
    · omega
    · simp only [and1_i32, IntKind.wrap_u32]; omega

theorem Mul_c (a b c : Int) : Con Tryz.prog f_long_Mul [.s (.int .i32 a), .s (.int .i32 b), .s (.int .i32 c)] [] (.ret (.tup [.s (.int .i32 (lgMul a b c)), .s (.int .i32 (lgMulH a b c))]) []) := by
  intro K hK
  refine enter fn_long_Mul rfl nt_long_Mul rfl rfl (fun φ w0 β0 F => ?_)
  refine c_run tt_ok ctA_ok k_long_Mul [] 60 (by kernel_rfl) ?_
  have h := mul_U a b
  have hc : 0 ≤ Uw c ∧ Uw c < 4294967296 := ⟨Uw_lo c, Uw_hi c⟩
  have e : ∀ x : Int, IntKind.u64.wrap (IntKind.u32.wrap x) = Uw x := fun x => by rw [IntKind.wrap_u32, IntKind.wrap_u64]; unfold Uw; omega
  refine fin_k tt_ok (rs := rs_long_Mul) rfl rfl hK [] (t2 ?_ ?_) rfl rfl rfl rfl rfl
  · simp only [e, lgMul]
    generalize Uw a * Uw b = p at *
    simp only [IntKind.wrap_u32, IntKind.wrap_u64, IntKind.wrap_i32, Wd]; omega
  · simp only [e, lgMulH, fdiv32u]
    generalize Uw a * Uw b = p at *
    simp only [IntKind.wrap_u32, IntKind.wrap_u64, IntKind.wrap_i32, Wd]; omega

theorem Add_c (a b c : Int) : Con Tryz.prog f_long_Add [.s (.int .i32 a), .s (.int .i32 b), .s (.int .i32 c)] [] (.ask (I32 a ∧ I32 b) (.ret (.tup [.s (.int .i32 (lgAdd a b c)), .s (.bool (lgAddO a b c))]) [])) := by
  intro K ⟨⟨ha, hb⟩, hK⟩
  refine enter fn_long_Add rfl nt_long_Add rfl rfl (fun φ w0 β0 F => ?_)
  refine c_run tt_ok ctA_ok k_long_Add [] 60 (by kernel_rfl) ?_
  unfold I32 at ha hb
  have e : IntKind.i64.wrap (IntKind.i64.wrap (IntKind.i64.wrap a + IntKind.i64.wrap b) + IntKind.i64.wrap (bits BinOp.and IntKind.i32 c 1)) = a + b + c % 2 := by
    simp only [and1_i32, IntKind.wrap_i64]; omega
  refine fin_k tt_ok (rs := rs_long_Add) rfl rfl hK [] (t2b ?_ ?_) rfl rfl rfl rfl rfl
  · rw [e, wrapW]; rfl
  · rw [e, wrapW, wrap64c (Wd_i32 _)]; rfl

theorem Sub_c (a b c : Int) : Con Tryz.prog f_long_Sub [.s (.int .i32 a), .s (.int .i32 b), .s (.int .i32 c)] [] (.ask (I32 a ∧ I32 b) (.ret (.tup [.s (.int .i32 (lgSub a b c)), .s (.bool (lgSubO a b c))]) [])) := by
  intro K ⟨⟨ha, hb⟩, hK⟩
  refine enter fn_long_Sub rfl nt_long_Sub rfl rfl (fun φ w0 β0 F => ?_)
  refine c_run tt_ok ctA_ok k_long_Sub [] 60 (by kernel_rfl) ?_
  unfold I32 at ha hb
  have e : IntKind.i64.wrap (IntKind.i64.wrap (IntKind.i64.wrap a - IntKind.i64.wrap b) - IntKind.i64.wrap (bits BinOp.and IntKind.i32 c 1)) = a - b - c % 2 := by
    simp only [and1_i32, IntKind.wrap_i64]; omega
  refine fin_k tt_ok (rs := rs_long_Sub) rfl rfl hK [] (t2b ?_ ?_) rfl rfl rfl rfl rfl
  · rw [e, wrapW]; rfl
  · rw [e, wrapW, wrap64c (Wd_i32 _)]; rfl

theorem Xdble_c (v : Int) : Con Tryz.prog f_long_Xdble [.s (.int .i32 v)] [] (.ask (I32 v) (.ret (.tup [.s (.int .i32 v), .s (.int .i32 (lgSign v))]) [])) := by
  intro K ⟨hv, hK⟩
  refine enter fn_long_Xdble rfl nt_long_Xdble rfl rfl (fun φ w0 β0 F => ?_)
  refine c_run tt_ok ctA_ok k_long_Xdble [] 60 (by kernel_rfl) ?_
  refine fin_k tt_ok (rs := rs_long_Xdble) rfl rfl hK [] (t2 rfl ?_) rfl rfl rfl rfl rfl
  have e : v.fdiv (2 ^ min 31 IntKind.i32.bits) = v / 2147483648 := Int.fdiv_eq_ediv_of_nonneg _ (by decide)
  unfold I32 at hv
  rw [e]; unfold lgSign; split <;> omega

theorem Div32_c (hi lo d : Int) (h0 : 0 ≤ hi) (h1 : hi < d) (h2 : d < 4294967296) (h3 : 0 ≤ lo) (h4 : lo < 4294967296) :
    Con Tryz.prog f_math_bits_Div32 [.s (.int .u32 hi), .s (.int .u32 lo), .s (.int .u32 d)] [] (.ret (.tup [.s (.int .u32 ((hi * 4294967296 + lo) / d)), .s (.int .u32 ((hi * 4294967296 + lo) % d))]) []) := by
  intro K hK
  refine enter fn_math_bits_Div32 rfl nt_math_bits_Div32 rfl rfl (fun φ w0 β0 F => ?_)
  refine c_run tt_ok ctA_ok k_math_bits_Div32 [] 60 (by kernel_rfl) ?_
  have e : IntKind.u64.wrap d = d := by simp only [IntKind.wrap_u64]; omega
  have ez : bits .or .u64 (IntKind.u64.wrap (IntKind.u64.wrap hi * 2 ^ min 32 IntKind.u64.bits)) (IntKind.u64.wrap lo) = hi * 4294967296 + lo := by
    have e1 : IntKind.u64.wrap (IntKind.u64.wrap hi * 2 ^ min 32 IntKind.u64.bits) = hi * 4294967296 := by
      show IntKind.u64.wrap (IntKind.u64.wrap hi * 4294967296) = _
      simp only [IntKind.wrap_u64]; omega
    have e2 : IntKind.u64.wrap lo = lo := by simp only [IntKind.wrap_u64]; omega
    rw [e1, e2, or64 h0 (by omega) h3 h4]
  have hq : 0 ≤ (hi * 4294967296 + lo) / d := Int.ediv_nonneg (by omega) (by omega)
  have hq' : (hi * 4294967296 + lo) / d < 4294967296 := by
    rw [Int.ediv_lt_iff_lt_mul (by omega)]
    have := Int.mul_le_mul_of_nonneg_right (show hi + 1 ≤ d by omega) (show (0 : Int) ≤ 4294967296 by decide)
    omega
  have hr := Int.emod_nonneg (hi * 4294967296 + lo) (show d ≠ 0 by omega)
  have hr' := Int.emod_lt_of_pos (hi * 4294967296 + lo) (show 0 < d by omega)
  have hz : 0 ≤ hi * 4294967296 + lo := by omega
  refine ⟨fun h => ?_, fun h => ?_⟩
  · exfalso
    have h1' : ¬ d ≤ hi := by omega
    simp [h1'] at h
  · refine ⟨by show IntKind.u64.wrap d ≠ 0; rw [e]; omega, by show IntKind.u64.wrap d ≠ 0; rw [e]; omega, ?_⟩
    refine fin_k tt_ok (rs := rs_math_bits_Div32) rfl rfl hK [] (t2 ?_ ?_) rfl rfl rfl rfl rfl
    · rw [e, ez, Int.tdiv_eq_ediv_of_nonneg hz]
      simp only [IntKind.wrap_u64, IntKind.wrap_u32]; omega
    · rw [e, ez, Int.tmod_eq_emod_of_nonneg hz]
      simp only [IntKind.wrap_u32]; omega

noncomputable abbrev ctB : CT := [(f_math_bits_Div32, .st (conS (P := Tryz.prog) (f := f_math_bits_Div32) fun cargs σ0 => match cargs, σ0 with
  | [.s (.int .u32 hi), .s (.int .u32 lo), .s (.int .u32 d)], [] => some ⟨.ask (0 ≤ hi ∧ hi < d ∧ d < 4294967296 ∧ 0 ≤ lo ∧ lo < 4294967296) (.ret (.tup [.s (.int .u32 ((hi * 4294967296 + lo) / d)), .s (.int .u32 ((hi * 4294967296 + lo) % d))]) []),
      fun K h => Div32_c hi lo d h.1.1 h.1.2.1 h.1.2.2.1 h.1.2.2.2.1 h.1.2.2.2.2 K h.2⟩
  | _, _ => none))]
theorem ctB_ok : CTok Tryz.prog ctB := ⟨con_ok cal_math_bits_Div32 _, trivial⟩

theorem Div_c (hi lo d : Int) : Con Tryz.prog f_long_Div [.s (.int .i32 hi), .s (.int .i32 lo), .s (.int .i32 d)] []
    (.br (lgDivO hi d) (.ret (.tup [.s (.int .i32 0), .s (.int .i32 0), .s (.bool true)]) []) (.ret (.tup [.s (.int .i32 (lgDiv hi lo d)), .s (.int .i32 (lgRem hi lo d)), .s (.bool false)]) [])) := by
  intro K ⟨hK1, hK2⟩
  refine enter fn_long_Div rfl nt_long_Div rfl rfl (fun φ w0 β0 F => ?_)
  refine c_run tt_ok ctB_ok k_long_Div [] 60 (by kernel_rfl) ?_
  have eh : ∀ x : Int, IntKind.u32.wrap x = Uw x := fun x => IntKind.wrap_u32 x
  have hh : decide (IntKind.u32.wrap hi ≥ IntKind.u32.wrap d) = lgDivO hi d := by rw [eh, eh]; rfl
  refine ⟨fun h => ?_, fun h => ?_⟩
  · exact fin_k tt_ok (rs := rs_long_Div) rfl rfl (hK1 (hh ▸ h)) [] rfl rfl rfl rfl rfl rfl
  · have h' : lgDivO hi d = false := hh ▸ h
    have hlt : Uw hi < Uw d := by simpa [lgDivO] using h'
    refine ⟨by simp only [eh]; exact ⟨Uw_lo _, hlt, Uw_hi _, Uw_lo _, Uw_hi _⟩, ?_⟩
    refine fin_k tt_ok (rs := rs_long_Div) rfl rfl (hK2 h') [] (t3b ?_ ?_ rfl) rfl rfl rfl rfl rfl
    · simp only [eh]; rw [wrapW]; rfl
    · simp only [eh]; rw [wrapW]; rfl

noncomputable abbrev ctC : CT := [(f_long_double_value, in_long_double_value []), (f_long_split, in_long_split [])]
theorem ctC_ok : CTok Tryz.prog ctC := ⟨in_long_double_value_ok trivial, in_long_split_ok trivial, trivial⟩
noncomputable abbrev ctD : CT := [(f_long_double_left, in_long_double_left ctC), (f_long_double_right, in_long_double_right ctC)]
theorem ctD_ok : CTok Tryz.prog ctD := ⟨in_long_double_left_ok ctC_ok, in_long_double_right_ok ctC_ok, trivial⟩
noncomputable abbrev ctE : CT := [(f_long_shifted, in_long_shifted ctD)]
theorem ctE_ok : CTok Tryz.prog ctE := ⟨in_long_shifted_ok ctD_ok, trivial⟩

theorem u64u32 (n : Int) : IntKind.u64.wrap (IntKind.u32.wrap n) = ((Uw n).toNat : Int) := by simp only [IntKind.wrap_u64, IntKind.wrap_u32, Uw]; omega
theorem u64nn (n : Int) : 0 ≤ IntKind.u64.wrap (IntKind.u32.wrap n) := by rw [u64u32]; omega
theorem u64tn (n : Int) : (IntKind.u64.wrap (IntKind.u32.wrap n)).toNat = (Uw n).toNat := by rw [u64u32]; omega
theorem i32u32 (n : Int) : IntKind.i32.wrap (IntKind.u32.wrap n) = Wd n := by simp only [IntKind.wrap_i32, IntKind.wrap_u32, Wd]; omega

theorem Shl_c (hi lo n : Int) : Con Tryz.prog f_long_Shl [.s (.int .i32 hi), .s (.int .i32 lo), .s (.int .i32 n)] [] (.ret (.tup [.s (.int .i32 (lgShlH hi lo n)), .s (.int .i32 (lgShl hi lo n))]) []) := by
  intro K hK
  refine enter fn_long_Shl rfl nt_long_Shl rfl rfl (fun φ w0 β0 F => ?_)
  refine c_run tt_ok ctE_ok k_long_Shl [] 60 (by kernel_rfl) ?_
  refine ⟨u64nn n, ?_⟩
  have e : ∀ x : Int, IntKind.u64.wrap (x * 2 ^ min (IntKind.u64.wrap (IntKind.u32.wrap n)).toNat IntKind.u64.bits) = shlV x n := fun x => by rw [IntKind.wrap_u64, shl_min, u64tn]; rfl
  refine fin_k tt_ok (rs := rs_long_Shl) rfl rfl hK [] (t2 ?_ ?_) rfl rfl rfl rfl rfl
  · rw [dv_prog, e, fdiv32u, i32u32]; rfl
  · rw [dv_prog, e, i32u32]; rfl

theorem Shr_c (hi lo n : Int) : Con Tryz.prog f_long_Shr [.s (.int .i32 hi), .s (.int .i32 lo), .s (.int .i32 n)] [] (.ret (.tup [.s (.int .i32 (lgShrH hi lo n)), .s (.int .i32 (lgShr hi lo n))]) []) := by
  intro K hK
  refine enter fn_long_Shr rfl nt_long_Shr rfl rfl (fun φ w0 β0 F => ?_)
  refine c_run tt_ok ctE_ok k_long_Shr [] 60 (by kernel_rfl) ?_
  refine ⟨u64nn n, ?_⟩
  have e : (Dv hi lo).fdiv (2 ^ min (IntKind.u64.wrap (IntKind.u32.wrap n)).toNat IntKind.u64.bits) = shrV (Dv hi lo) n := by rw [shr_min (Dv_lo _ _) (Dv_hi _ _), u64tn]; rfl
  refine fin_k tt_ok (rs := rs_long_Shr) rfl rfl hK [] (t2 ?_ ?_) rfl rfl rfl rfl rfl
  · rw [dv_prog, e, fdiv32u, i32u32]; rfl
  · rw [dv_prog, e, i32u32]; rfl


/-- math/bits' table. -/
def tab8 : List UInt8 := (List.range 256).map fun j => UInt8.ofNat (bitLen j)
theorem len_leaf (z : Int) (n x : Nat) (_h0 : 0 ≤ z) (hx : z.toNat / 2 ^ n = x) (hlt : x < 256) (hnz : n = 0 ∨ 0 < x) {tab : List UInt8} (ht : ∀ j : Fin 256, tab[j.val]? = some (UInt8.ofNat (bitLen j.val))) :
    tab[x]? = some (UInt8.ofNat (bitLen x)) ∧ (n : Int) + ((UInt8.ofNat (bitLen x)).toNat : Int) = (bitLen z.toNat : Int) := by
  refine ⟨ht ⟨x, hlt⟩, ?_⟩
  have hb : bitLen x ≤ 9 := by
    unfold bitLen; split
    · omega
    · have := Nat.log2_lt (n := x) (k := 8) (by omega); omega
  have e : (UInt8.ofNat (bitLen x)).toNat = bitLen x := by simp; omega
  rw [e]
  rcases hnz with rfl | h
  · simp at hx; rw [← hx]; omega
  · subst hx
    have := bitLen_div (z := z.toNat) (n := n) (by omega)
    omega
theorem Len64_c (z : Int) (h0 : 0 ≤ z) (h1 : z < 18446744073709551616) : Con Tryz.prog f_math_bits_Len64 [.s (.int .u64 z)] [] (.ret (.t (.s (.int .i64 (bitLen z.toNat : Int)))) []) := by
  intro K hK
  refine enter fn_math_bits_Len64 rfl nt_math_bits_Len64 rfl rfl (fun φ w0 β0 F => ?_)
  refine c_run tt_ok (ct := []) trivial k_math_bits_Len64 [] 60 (by kernel_rfl) ?_
  have d32 : ∀ x : Int, x.fdiv (2 ^ min 32 IntKind.u64.bits) = x / 4294967296 := fdiv32u
  have d16 : ∀ x : Int, x.fdiv (2 ^ min 16 IntKind.u64.bits) = x / 65536 := fun x => Int.fdiv_eq_ediv_of_nonneg _ (by decide)
  have d8 : ∀ x : Int, x.fdiv (2 ^ min 8 IntKind.u64.bits) = x / 256 := fun x => Int.fdiv_eq_ediv_of_nonneg _ (by decide)
  refine ⟨fun a1 => ⟨fun a2 => ⟨fun a3 => ?_, fun a3 => ?_⟩, fun a2 => ⟨fun a3 => ?_, fun a3 => ?_⟩⟩, fun a1 => ⟨fun a2 => ⟨fun a3 => ?_, fun a3 => ?_⟩, fun a2 => ⟨fun a3 => ?_, fun a3 => ?_⟩⟩⟩
  all_goals
    simp only [d32, d16, ge_iff_le, decide_eq_true_eq, decide_eq_false_iff_not] at a1 a2 a3
  · have hl := fun (tab : List UInt8) ht => len_leaf z 56 (z / 4294967296 / 65536 / 256).toNat h0 (by omega) (by omega) (by omega) (tab := tab) ht
    refine ⟨(z / 4294967296 / 65536 / 256).toNat, UInt8.ofNat (bitLen (z / 4294967296 / 65536 / 256).toNat), ⟨by rw [d32, d16, d8, IntKind.wrap_u8]; omega, (hl _ (by decide +kernel)).1⟩, ?_⟩
    have hv := (hl tab8 (by decide +kernel)).2
    refine fin_k tt_ok (rs := rs_math_bits_Len64) rfl rfl hK [] (t1 ?_) rfl rfl rfl rfl rfl
    have hb := (UInt8.ofNat (bitLen (z / 4294967296 / 65536 / 256).toNat)).toNat_lt
    simp only [IntKind.wrap_i64]; omega
  · have hl := fun (tab : List UInt8) ht => len_leaf z 48 (z / 4294967296 / 65536).toNat h0 (by omega) (by omega) (by omega) (tab := tab) ht
    refine ⟨(z / 4294967296 / 65536).toNat, UInt8.ofNat (bitLen (z / 4294967296 / 65536).toNat), ⟨by rw [d32, d16, IntKind.wrap_u8]; omega, (hl _ (by decide +kernel)).1⟩, ?_⟩
    have hv := (hl tab8 (by decide +kernel)).2
    refine fin_k tt_ok (rs := rs_math_bits_Len64) rfl rfl hK [] (t1 ?_) rfl rfl rfl rfl rfl
    have hb := (UInt8.ofNat (bitLen (z / 4294967296 / 65536).toNat)).toNat_lt
    simp only [IntKind.wrap_i64]; omega
  · have hl := fun (tab : List UInt8) ht => len_leaf z 40 (z / 4294967296 / 256).toNat h0 (by omega) (by omega) (by omega) (tab := tab) ht
    refine ⟨(z / 4294967296 / 256).toNat, UInt8.ofNat (bitLen (z / 4294967296 / 256).toNat), ⟨by rw [d32, d8, IntKind.wrap_u8]; omega, (hl _ (by decide +kernel)).1⟩, ?_⟩
    have hv := (hl tab8 (by decide +kernel)).2
    refine fin_k tt_ok (rs := rs_math_bits_Len64) rfl rfl hK [] (t1 ?_) rfl rfl rfl rfl rfl
    have hb := (UInt8.ofNat (bitLen (z / 4294967296 / 256).toNat)).toNat_lt
    simp only [IntKind.wrap_i64]; omega
  · have hl := fun (tab : List UInt8) ht => len_leaf z 32 (z / 4294967296).toNat h0 (by omega) (by omega) (by omega) (tab := tab) ht
    refine ⟨(z / 4294967296).toNat, UInt8.ofNat (bitLen (z / 4294967296).toNat), ⟨by rw [d32, IntKind.wrap_u8]; omega, (hl _ (by decide +kernel)).1⟩, ?_⟩
    have hv := (hl tab8 (by decide +kernel)).2
    refine fin_k tt_ok (rs := rs_math_bits_Len64) rfl rfl hK [] (t1 ?_) rfl rfl rfl rfl rfl
    have hb := (UInt8.ofNat (bitLen (z / 4294967296).toNat)).toNat_lt
    simp only [IntKind.wrap_i64]; omega
  · have hl := fun (tab : List UInt8) ht => len_leaf z 24 (z / 65536 / 256).toNat h0 (by omega) (by omega) (by omega) (tab := tab) ht
    refine ⟨(z / 65536 / 256).toNat, UInt8.ofNat (bitLen (z / 65536 / 256).toNat), ⟨by rw [d16, d8, IntKind.wrap_u8]; omega, (hl _ (by decide +kernel)).1⟩, ?_⟩
    have hv := (hl tab8 (by decide +kernel)).2
    refine fin_k tt_ok (rs := rs_math_bits_Len64) rfl rfl hK [] (t1 ?_) rfl rfl rfl rfl rfl
    have hb := (UInt8.ofNat (bitLen (z / 65536 / 256).toNat)).toNat_lt
    simp only [IntKind.wrap_i64]; omega
  · have hl := fun (tab : List UInt8) ht => len_leaf z 16 (z / 65536).toNat h0 (by omega) (by omega) (by omega) (tab := tab) ht
    refine ⟨(z / 65536).toNat, UInt8.ofNat (bitLen (z / 65536).toNat), ⟨by rw [d16, IntKind.wrap_u8]; omega, (hl _ (by decide +kernel)).1⟩, ?_⟩
    have hv := (hl tab8 (by decide +kernel)).2
    refine fin_k tt_ok (rs := rs_math_bits_Len64) rfl rfl hK [] (t1 ?_) rfl rfl rfl rfl rfl
    have hb := (UInt8.ofNat (bitLen (z / 65536).toNat)).toNat_lt
    simp only [IntKind.wrap_i64]; omega
  · have hl := fun (tab : List UInt8) ht => len_leaf z 8 (z / 256).toNat h0 (by omega) (by omega) (by omega) (tab := tab) ht
    refine ⟨(z / 256).toNat, UInt8.ofNat (bitLen (z / 256).toNat), ⟨by rw [d8, IntKind.wrap_u8]; omega, (hl _ (by decide +kernel)).1⟩, ?_⟩
    have hv := (hl tab8 (by decide +kernel)).2
    refine fin_k tt_ok (rs := rs_math_bits_Len64) rfl rfl hK [] (t1 ?_) rfl rfl rfl rfl rfl
    have hb := (UInt8.ofNat (bitLen (z / 256).toNat)).toNat_lt
    simp only [IntKind.wrap_i64]; omega
  · have hl := fun (tab : List UInt8) ht => len_leaf z 0 z.toNat h0 (by omega) (by omega) (by omega) (tab := tab) ht
    refine ⟨z.toNat, UInt8.ofNat (bitLen z.toNat), ⟨by rw [IntKind.wrap_u8]; omega, (hl _ (by decide +kernel)).1⟩, ?_⟩
    have hv := (hl tab8 (by decide +kernel)).2
    refine fin_k tt_ok (rs := rs_math_bits_Len64) rfl rfl hK [] (t1 ?_) rfl rfl rfl rfl rfl
    have hb := (UInt8.ofNat (bitLen z.toNat)).toNat_lt
    simp only [IntKind.wrap_i64]; omega
end Go.Proofs.L2

namespace Go.Proofs.L2
open Go Go.Sx
set_option maxRecDepth 10000

theorem Value_c (w : Int) (hw : I32 w) : Con Tryz.prog f_r02_Value [.s (.int .i32 w)] [] (.ret (.t (.s (.int .i64 (Uw w)))) []) := by
  intro K hK
  refine enter fn_r02_Value rfl nt_r02_Value rfl rfl (fun φ w0 β0 F => ?_)
  refine c_run tt_ok (ct := []) trivial k_r02_Value [] 60 (by kernel_rfl) ?_
  unfold I32 at hw
  refine ⟨fun h => ?_, fun h => ?_⟩
  all_goals
    simp only [decide_eq_true_eq, decide_eq_false_iff_not, IntKind.wrap_i64] at h
    refine fin_k tt_ok (rs := rs_r02_Value) rfl rfl hK [] (t1 ?_) rfl rfl rfl rfl rfl
    simp only [IntKind.wrap_i64]; unfold Uw; omega
theorem RWord_c (v : Int) (_h0 : 0 ≤ v) (_h1 : v < 4294967296) : Con Tryz.prog f_r02_Word [.s (.int .i64 v)] [] (.ret (.t (.s (.int .i32 (Wd v)))) []) := by
  intro K hK
  refine enter fn_r02_Word rfl nt_r02_Word rfl rfl (fun φ w0 β0 F => ?_)
  refine c_run tt_ok (ct := []) trivial k_r02_Word [] 60 (by kernel_rfl) ?_
  refine ⟨fun h => ?_, fun h => ?_⟩
  all_goals
    simp only [decide_eq_true_eq, decide_eq_false_iff_not] at h
    refine fin_k tt_ok (rs := rs_r02_Word) rfl rfl hK [] (t1 ?_) rfl rfl rfl rfl rfl
    simp only [IntKind.wrap_i64, IntKind.wrap_i32]; unfold Wd; omega

noncomputable abbrev eValue : Ent := .st (conS (P := Tryz.prog) (f := f_r02_Value) fun cargs σ0 => match cargs, σ0 with
  | [.s (.int .i32 w)], [] => some ⟨.ask (I32 w) (.ret (.t (.s (.int .i64 (Uw w)))) []), fun K h => Value_c w h.1 K h.2⟩
  | _, _ => none)
noncomputable abbrev eRWord : Ent := .st (conS (P := Tryz.prog) (f := f_r02_Word) fun cargs σ0 => match cargs, σ0 with
  | [.s (.int .i64 v)], [] => some ⟨.ask (0 ≤ v ∧ v < 4294967296) (.ret (.t (.s (.int .i32 (Wd v)))) []), fun K h => RWord_c v h.1.1 h.1.2 K h.2⟩
  | _, _ => none)
noncomputable abbrev ctV : CT := [(f_r02_Value, eValue), (f_r02_Word, eRWord)]
theorem ctV_ok : CTok Tryz.prog ctV := ⟨con_ok cal_r02_Value _, con_ok cal_r02_Word _, trivial⟩

theorem bits_c (w : Int) (hw : I32 w) : Con Tryz.prog f_r02_bits [.s (.int .i32 w)] [] (.all (List Int × Nat) (fun x => IsB x.1 32 (Uw w) ∧ 32 ≤ x.2) (fun x => .ret (.t (.s (.sl 0 0 32 x.2))) [.own 3 1 x.2 (intsI x.1)])) := by
  intro K hK
  refine enter fn_r02_bits rfl nt_r02_bits rfl rfl (fun φ w0 β0 F => ?_)
  refine c_run tt_ok ctV_ok k_r02_bits [] 60 (by kernel_rfl) ?_
  refine ⟨hw, ?_⟩
  show WpC _ _ _ _ _
  refine WpC.into (nilSlot 4 3 1 rfl) ?_
  refine c_loop (α := List Int × Int × Nat) (fun x => Bits x.1 ∧ x.1.length ≤ 32 ∧ valL x.1 + 2 ^ x.1.length * x.2.1 = Uw w ∧ 0 ≤ x.2.1 ∧ x.1.length ≤ x.2.2) (fun x => 32 - x.1.length)
    (fun x => [(3, .t (.s (.int .i64 x.2.1)), none), (4, .t (.s (.sl 0 0 x.1.length x.2.2)), none), (5, .t (.s (.int .i64 (x.1.length : Int))), none)])
    (fun x => [.own 3 1 x.2.2 (intsI x.1)]) ([], Uw w, 0) ⟨by intro b hb; simp at hb, by simp, by simp [valL], Uw_lo w, by simp⟩ ?_ ?_
  · exact into [0] ⟨⟨_, rfl, rfl⟩, ⟨_, rfl, rfl⟩, ⟨_, rfl, rfl⟩, trivial⟩ ⟨_, rfl, rfl⟩ rfl rfl rfl rfl
  · rintro ⟨l, v, c⟩ ⟨hb, hl, hv, hv0, hlc⟩
    simp only at hb hl hv hv0 hlc
    dsimp only
    refine c_run' tt_ok ctV_ok k_r02_bits [] 60 (by kernel_rfl) (by kernel_rfl) ?_
    refine ⟨fun h1 => ?_, fun h1 => ?_⟩
    · simp only [decide_eq_true_eq] at h1
      refine ⟨⟨rfl, by simp, Nat.le_refl _, one_u rfl, by simp only [maxLen]; omega, by omega⟩, fun c1 hc1 hc2 => ?_⟩
      have hvU : v ≤ Uw w := by
        have := valL_range hb
        have hp := pow2_pos l.length
        have : v ≤ 2 ^ l.length * v := by have := Int.mul_le_mul_of_nonneg_right (show (1 : Int) ≤ 2 ^ l.length by omega) hv0; omega
        omega
      have hv2 : v < 4294967296 := Int.lt_of_le_of_lt hvU (Uw_hi w)
      have et : v.tmod 2 = v % 2 := Int.tmod_eq_emod_of_nonneg hv0
      have eq2 : IntKind.i64.wrap (v.tdiv 2) = v / 2 := by rw [Int.tdiv_eq_ediv_of_nonneg hv0, IntKind.wrap_i64]; omega
      refine e_again (l ++ [v % 2], v / 2, c1) ⟨?_, by simp; omega, ?_, show 0 ≤ v / 2 by omega, by simpa using hc1⟩ (by simp; omega) (into [2] ⟨⟨_, rfl, fvi eq2⟩, ⟨_, rfl, fvsl rfl (show l.length + 1 = (l ++ [v % 2]).length by simp) rfl⟩, ⟨_, rfl, fvi (by rw [wrapSucc (by omega), List.length_append]; rfl)⟩, trivial⟩ ⟨_, rfl, ?_⟩ rfl rfl rfl rfl)
      · exact hb.append (fun b hb => by simp at hb; omega)
      · rw [valL_append, List.length_append, List.length_singleton, Int.pow_succ]
        simp only [valL]
        rw [← hv, Int.mul_assoc, Int.add_assoc, ← Int.mul_add]
        congr 2; omega
      · rw [intsI_append]
        show _ = [Ch.own 3 1 c1 (intsI l ++ [Value.int .i64 (v % 2)])]
        rw [← et]; rfl
    · simp only [decide_eq_false_iff_not] at h1
      have hlen : l.length = 32 := by omega
      have hval : valL l = Uw w := by
        have := valL_range hb
        have h2 := Uw_hi w
        rw [hlen] at hv this
        have e : (2 : Int) ^ 32 = 4294967296 := by decide
        rw [e] at hv this
        omega
      refine fin_k tt_ok (rs := rs_r02_bits) rfl rfl (hK (l, c) ⟨⟨hlen, hb, hval⟩, by omega⟩) [0] ?_ rfl rfl rfl rfl rfl
      show FV.t (.s (.sl 0 0 l.length c)) = _
      rw [hlen]; rfl
end Go.Proofs.L2

namespace Go.Proofs.L2
open Go Go.Sx
set_option maxRecDepth 10000

noncomputable abbrev eBits : Ent := .st (conS (P := Tryz.prog) (f := f_r02_bits) fun cargs σ0 => match cargs, σ0 with
  | [.s (.int .i32 w)], [] => some ⟨.ask (I32 w) (.all (List Int × Nat) (fun x => IsB x.1 32 (Uw w) ∧ 32 ≤ x.2) (fun x => .ret (.t (.s (.sl 0 0 32 x.2))) [.own 3 1 x.2 (intsI x.1)])), fun K h => bits_c w h.1 K h.2⟩
  | _, _ => none)

/-! word reads -/
theorem valL_drop_lt {l : List Int} (hb : Bits l) (hl : l.length ≤ 32) (j : Nat) : 0 ≤ valL (l.drop j) ∧ valL (l.drop j) < 4294967296 := by
  have := valL_range (hb.drop j)
  have h2 : (2 : Int) ^ (l.drop j).length ≤ 2 ^ 32 := by
    rw [pow_split (show (l.drop j).length ≤ 32 by simp; omega)]
    have h1 := pow2_pos (32 - (l.drop j).length)
    have h3 := pow2_pos (l.drop j).length
    have := Int.mul_le_mul_of_nonneg_left (show (1 : Int) ≤ 2 ^ (32 - (l.drop j).length) by omega) (show (0 : Int) ≤ 2 ^ (l.drop j).length by omega)
    omega
  have e : (2 : Int) ^ 32 = 4294967296 := by decide
  omega
theorem word_rd (l : List Int) (n c : Nat) (hb : Bits l) (hl : l.length = n) (hn : n ≤ 32) : RdS Tryz.prog f_r02_word [.row (intsI l) n c] (.t (.s (.int .i32 (Wd (valL l))))) := by
  show TriS _ _ [.s (.sl 0 0 n c)] [.view (intsI l)] _ _ _
  refine enter fn_r02_word rfl nt_r02_word rfl rfl (fun φ w0 β0 F => ?_)
  refine c_run tt_ok ctV_ok k_r02_word [] 60 (by kernel_rfl) ?_
  show WpC _ _ _ _ _
  refine c_loop (α := Nat) (fun j => j ≤ n) (fun j => j)
    (fun j => [(0, .t (.s (.sl 0 0 n c)), none), (3, .t (.s (.int .i64 (valL (l.drop j)))), none), (4, .t (.s (.int .i64 ((j : Int) - 1))), none)])
    (fun _ => [.view (intsI l)]) n (Nat.le_refl _) ?_ ?_
  · refine into [0] ⟨⟨_, rfl, rfl⟩, ⟨_, rfl, fvi ?_⟩, ⟨_, rfl, fvi ?_⟩, trivial⟩ ⟨_, rfl, rfl⟩ rfl rfl rfl rfl
    · rw [← hl, List.drop_length]; rfl
    · rw [wrap64 (by omega) (by omega)]
  · rintro j hj
    dsimp only
    refine c_run' tt_ok ctV_ok k_r02_word [] 60 (by kernel_rfl) (by kernel_rfl) ?_
    refine ⟨fun h1 => ?_, fun h1 => ?_⟩
    · simp only [ge_iff_le, decide_eq_true_eq] at h1
      have hlt : j - 1 < l.length := by omega
      refine ⟨j - 1, ⟨by omega, by omega, by simp; omega⟩, .int .i64 (l.getD (j - 1) 0), rfl, intsI_at hlt, ?_⟩
      have hd : l.drop (j - 1) = l.getD (j - 1) 0 :: l.drop j := by
        rw [List.drop_eq_getElem_cons hlt, show j - 1 + 1 = j by omega]; simp [hlt]
      have hv := valL_drop_lt hb (by omega) (j - 1)
      have hv' := valL_drop_lt hb (by omega) j
      have he : valL (l.drop (j - 1)) = l.getD (j - 1) 0 + 2 * valL (l.drop j) := by rw [hd]; rfl
      have hb1 := hb.get hlt
      refine e_again (j - 1) (show j - 1 ≤ n by omega) (show j - 1 < j by omega) (into [0] ⟨⟨_, rfl, rfl⟩, ⟨_, rfl, fvi ?_⟩, ⟨_, rfl, fvi ?_⟩, trivial⟩ ⟨_, rfl, rfl⟩ rfl rfl rfl rfl)
      · rw [he]; simp only [IntKind.wrap_i64]; omega
      · simp only [IntKind.wrap_i64]; omega
    · simp only [ge_iff_le, decide_eq_false_iff_not] at h1
      have h0 : j = 0 := by omega
      subst h0
      have hv := valL_drop_lt hb (by omega) 0
      refine ⟨hv, ?_⟩
      exact fin_ret tt_ok (rs := rs_r02_word) rfl rfl () [0] trivial rfl rfl rfl rfl rfl rfl
def rdWord : List RA → (Prop → Prop) → (FV → Prop) → Option Prop
  | [.row xs n _], ask, k => some (∃ l : List Int, ask (xs = intsI l ∧ Bits l ∧ l.length = n ∧ n ≤ 32) ∧ k (.t (.s (.int .i32 (Wd (valL l))))))
  | _, _, _ => none
theorem re_word : REok Tryz.prog f_r02_word rdWord := ⟨cal_r02_word, fun args ask k R h hR => by
  unfold rdWord at h
  split at h
  · cases h
    obtain ⟨l, h1, h2⟩ := hR
    refine ⟨_, h2, rfl, fun hp => ?_⟩
    obtain ⟨rfl, hb, hl, hn⟩ := hp _ h1
    exact word_rd l _ _ hb hl hn
  · cases h⟩

noncomputable abbrev ctW : CT := [(f_r02_Value, eValue), (f_r02_Word, eRWord), (f_r02_bits, eBits), (f_r02_word, .rd rdWord)]
theorem ctW_ok : CTok Tryz.prog ctW := ⟨con_ok cal_r02_Value _, con_ok cal_r02_Word _, con_ok cal_r02_bits _, re_word, trivial⟩

theorem double_c (hi lo : Int) (h1 : I32 hi) (h2 : I32 lo) : Con Tryz.prog f_r02_double [.s (.int .i32 hi), .s (.int .i32 lo)] [] (.all (List Int × Nat) (fun x => IsB x.1 64 (Dv hi lo) ∧ 64 ≤ x.2) (fun x => .ret (.t (.s (.sl 0 0 64 x.2))) [.own 3 1 x.2 (intsI x.1)])) := by
  intro K hK
  refine enter fn_r02_double rfl nt_r02_double rfl rfl (fun φ w0 β0 F => ?_)
  refine c_run tt_ok ctW_ok k_r02_double [] 60 (by kernel_rfl) ?_
  refine ⟨h2, ?_⟩
  rintro ⟨a, ca⟩ ⟨ha, hca⟩
  refine ⟨h1, ?_⟩
  rintro ⟨b, cb⟩ ⟨hb, hcb⟩
  simp only at ha hca hb hcb
  refine ⟨⟨rfl, by simp [ha.len], by simp [hb.len], by rw [seg_intsI]; exact intsI_one _, by decide, by decide⟩, fun c1 hc1 hc2 => ?_⟩
  refine fin_k tt_ok (rs := rs_r02_double) rfl rfl (hK (a ++ b, c1) ⟨⟨by simp [ha.len, hb.len], ha.bits.append hb.bits, ?_⟩, hc1⟩) [2] rfl ?_ rfl rfl rfl rfl
  · rw [valL_append, ha.len, ha.val, hb.val]; unfold Dv
    have e : (2 : Int) ^ 32 = 4294967296 := by decide
    rw [e, Int.mul_comm]; omega
  · have e : seg (intsI b) 0 (32 * 1) = intsI b := by rw [seg_intsI, List.drop_zero, List.take_of_length_le (by rw [hb.len]; decide)]
    show some [Ch.own 3 1 c1 (intsI a ++ seg (intsI b) 0 (32 * 1))] = some [Ch.own 3 1 c1 (intsI (a ++ b))]
    rw [e, intsI_append]

noncomputable abbrev eDouble : Ent := .st (conS (P := Tryz.prog) (f := f_r02_double) fun cargs σ0 => match cargs, σ0 with
  | [.s (.int .i32 hi), .s (.int .i32 lo)], [] => some ⟨.ask (I32 hi ∧ I32 lo) (.all (List Int × Nat) (fun x => IsB x.1 64 (Dv hi lo) ∧ 64 ≤ x.2) (fun x => .ret (.t (.s (.sl 0 0 64 x.2))) [.own 3 1 x.2 (intsI x.1)])), fun K h => double_c hi lo h.1.1 h.1.2 K h.2⟩
  | _, _ => none)

/-- plus: what it leaves. -/
abbrev plusO (n c1 c2 : Nat) (x y : List Int) (b : Int) : Out :=
  .all (List Int × Nat × Int) (fun p => (p.1.length = n ∧ Bits p.1 ∧ n ≤ p.2.1) ∧ (p.2.2 = 0 ∨ p.2.2 = 1) ∧ valL p.1 + 2 ^ n * p.2.2 = valL x + valL y + b)
    (fun p => .ret (.tup [.s (.sl 2 0 n p.2.1), .s (.int .i64 p.2.2)]) [.own 3 1 c1 (intsI x), .own 3 1 c2 (intsI y), .own 3 1 p.2.1 (intsI p.1)])
theorem plus_c (n c1 c2 : Nat) (x y : List Int) (b : Int) (hx : x.length = n) (hy : y.length = n) (hn : n ≤ 64) (bx : Bits x) (by' : Bits y) (hb : b = 0 ∨ b = 1) :
    Con Tryz.prog f_r02_plus [.s (.sl 0 0 n c1), .s (.sl 1 0 n c2), .s (.int .i64 b)] [.own 3 1 c1 (intsI x), .own 3 1 c2 (intsI y)] (plusO n c1 c2 x y b) := by
  intro K hK
  refine enter fn_r02_plus rfl nt_r02_plus rfl rfl (fun φ w0 β0 F => ?_)
  refine c_run tt_ok (ct := []) trivial k_r02_plus [] 60 (by kernel_rfl) ?_
  show WpC _ _ _ _ _
  refine WpC.into (nilSlot 8 3 1 rfl) ?_
  refine c_loop (α := List Int × Nat × Int) (fun p => (p.1.length ≤ n ∧ Bits p.1 ∧ p.1.length ≤ p.2.1) ∧ (p.2.2 = 0 ∨ p.2.2 = 1) ∧ valL p.1 + 2 ^ p.1.length * p.2.2 = valL (x.take p.1.length) + valL (y.take p.1.length) + b) (fun p => n - p.1.length)
    (fun p => [(0, .t (.s (.sl 0 0 n c1)), none), (1, .t (.s (.sl 1 0 n c2)), none), (2, .t (.s (.int .i64 p.2.2)), none), (8, .t (.s (.sl 2 0 p.1.length p.2.1)), none), (9, .t (.s (.int .i64 (p.1.length : Int))), none)])
    (fun p => [.own 3 1 c1 (intsI x), .own 3 1 c2 (intsI y), .own 3 1 p.2.1 (intsI p.1)]) ([], 0, b) ⟨⟨by simp, by intro b hb; simp at hb, by simp⟩, hb, by simp [valL]⟩ ?_ ?_
  · exact into [0, 1, 2] ⟨⟨_, rfl, rfl⟩, ⟨_, rfl, rfl⟩, ⟨_, rfl, rfl⟩, ⟨_, rfl, rfl⟩, ⟨_, rfl, rfl⟩, trivial⟩ ⟨_, rfl, rfl⟩ rfl rfl rfl rfl
  · rintro ⟨z, c, q⟩ ⟨⟨hl, hz, hc⟩, hq, hv⟩
    simp only at hl hz hc hq hv
    dsimp only
    refine c_run' tt_ok (ct := []) trivial k_r02_plus [] 60 (by kernel_rfl) (by kernel_rfl) ?_
    refine ⟨fun h1 => ?_, fun h1 => ?_⟩
    · simp only [decide_eq_true_eq] at h1
      have hzn : z.length < n := by omega
      have gx := bx.get (i := z.length) (by omega)
      have gy := by'.get (i := z.length) (by omega)
      refine ⟨z.length, ⟨rfl, hzn, by simp; omega⟩, .int .i64 (x.getD z.length 0), rfl, intsI_at (by omega), ?_⟩
      refine ⟨z.length, ⟨rfl, hzn, by simp; omega⟩, .int .i64 (y.getD z.length 0), rfl, intsI_at (by omega), ?_⟩
      refine ⟨⟨rfl, by simp, Nat.le_refl _, one_u rfl, by simp only [maxLen]; omega, by omega⟩, fun c' hc1 hc2 => ?_⟩
      have es : IntKind.i64.wrap (IntKind.i64.wrap (x.getD z.length 0 + y.getD z.length 0) + q) = x.getD z.length 0 + y.getD z.length 0 + q := by simp only [IntKind.wrap_i64]; omega
      have em : ∀ s : Int, 0 ≤ s → s.tmod 2 = s % 2 := fun s hs => Int.tmod_eq_emod_of_nonneg hs
      have ed : ∀ s : Int, 0 ≤ s → s ≤ 3 → IntKind.i64.wrap (s.tdiv 2) = s / 2 := fun s hs hs' => by rw [Int.tdiv_eq_ediv_of_nonneg hs, IntKind.wrap_i64]; omega
      have tk : ∀ (u : List Int), z.length < u.length → u.take (z.length + 1) = u.take z.length ++ [u.getD z.length 0] := fun u hu => by
        rw [List.take_succ_eq_append_getElem hu]; simp [hu]
      refine e_again (z ++ [(x.getD z.length 0 + y.getD z.length 0 + q) % 2], c', (x.getD z.length 0 + y.getD z.length 0 + q) / 2) ⟨⟨by simp; omega, hz.append (fun b hb => by simp at hb; omega), by simpa using hc1⟩, by show (x.getD z.length 0 + y.getD z.length 0 + q) / 2 = 0 ∨ (x.getD z.length 0 + y.getD z.length 0 + q) / 2 = 1; omega, ?_⟩ (by simp; omega)
        (into [0, 1, 4] ⟨⟨_, rfl, rfl⟩, ⟨_, rfl, rfl⟩, ⟨_, rfl, fvi ?_⟩, ⟨_, rfl, fvsl rfl (show z.length + 1 = (z ++ [_]).length by simp) rfl⟩, ⟨_, rfl, fvi (by rw [wrapSucc (by omega), List.length_append]; rfl)⟩, trivial⟩ ⟨_, rfl, ?_⟩ rfl rfl rfl rfl)
      · show valL (z ++ [_]) + 2 ^ (z ++ [_]).length * _ = valL (x.take (z ++ [_]).length) + valL (y.take (z ++ [_]).length) + b
        rw [List.length_append, List.length_singleton, tk x (by omega), tk y (by omega), valL_append, valL_append, valL_append, Int.pow_succ]
        simp only [valL, List.length_take]
        rw [Nat.min_eq_left (by omega), Nat.min_eq_left (by omega)]
        generalize (2 : Int) ^ z.length = p at *
        generalize hs : x.getD z.length 0 + y.getD z.length 0 + q = s at *
        have e1 : p * s = p * (s % 2) + p * 2 * (s / 2) := by
          rw [Int.mul_assoc, ← Int.mul_add]; congr 1; omega
        have e2 : p * s = p * x.getD z.length 0 + p * y.getD z.length 0 + p * q := by rw [← hs, Int.mul_add, Int.mul_add]
        simp only [Int.mul_zero, Int.add_zero]
        omega
      · rw [es, ed _ (by omega) (by omega)]
      · rw [intsI_append, ← em _ (by omega), ← es]; rfl
    · simp only [decide_eq_false_iff_not] at h1
      have hzn : z.length = n := by omega
      have hv' : valL z + 2 ^ n * q = valL x + valL y + b := by
        rw [hzn, List.take_of_length_le (by omega), List.take_of_length_le (by omega)] at hv; exact hv
      refine fin_k tt_ok (rs := rs_r02_plus) rfl rfl (hK (z, c, q) ⟨⟨hzn, hz, show n ≤ c by omega⟩, hq, hv'⟩) [0, 1, 2] ?_ rfl rfl rfl rfl rfl
      show FV.tup [.s (.sl 2 0 z.length c), .s (.int .i64 q)] = _
      rw [hzn]; rfl
end Go.Proofs.L2

namespace Go.Proofs.L2
open Go Go.Sx
set_option maxRecDepth 10000

noncomputable abbrev ePlus : Ent := .st (conS (P := Tryz.prog) (f := f_r02_plus) fun cargs σ0 => match cargs, σ0 with
  | [.s (.sl 0 0 n c1), .s (.sl 1 0 m c2), .s (.int .i64 b)], [.own 3 1 d1 xs, .own 3 1 d2 ys] => some ⟨.ex (List Int × List Int) fun p => .ask ((xs = intsI p.1 ∧ ys = intsI p.2 ∧ d1 = c1 ∧ d2 = c2 ∧ m = n) ∧ (p.1.length = n ∧ p.2.length = n ∧ n ≤ 64 ∧ Bits p.1 ∧ Bits p.2 ∧ (b = 0 ∨ b = 1))) (plusO n c1 c2 p.1 p.2 b),
      fun K h => by
        obtain ⟨⟨x, y⟩, ⟨⟨rfl, rfl, rfl, rfl, rfl⟩, h1, h2, h3, h4, h5, h6⟩, h7⟩ := h
        exact plus_c _ _ _ x y b h1 h2 h3 h4 h5 h6 K h7⟩
  | _, _ => none)

theorem setV_mid (p q r : List Value) (v w : Value) (h : q = p ++ w :: r) : setV q p.length [v] = p ++ v :: r := by
  subst h; simp [setV]
/-- The rows that left and right make, up to place i. -/
def lshL (l : List Int) (k i : Nat) : List Int := List.replicate k 0 ++ (l.take (i - k) ++ List.replicate (64 - i) 0)
def rshL (l : List Int) (k i : Nat) : List Int := (l.drop k).take i ++ List.replicate (64 - i) 0

theorem lshL_step {l : List Int} {k i : Nat} (hl : l.length = 64) (hk : k ≤ i) (hi : i < 64) : setV (intsI (lshL l k i)) i [Value.int .i64 (l.getD (i - k) 0)] = intsI (lshL l k (i + 1)) := by
  have h1 : (intsI (List.replicate k 0 ++ l.take (i - k))).length = i := by simp; omega
  have h2 : intsI (lshL l k i) = intsI (List.replicate k 0 ++ l.take (i - k)) ++ Value.int .i64 0 :: intsI (List.replicate (64 - (i + 1)) 0) := by
    unfold lshL
    rw [← List.append_assoc, intsI_append]
    congr 1
    rw [show 64 - i = 64 - (i + 1) + 1 by omega, List.replicate_succ]; rfl
  have := setV_mid _ _ _ (Value.int .i64 (l.getD (i - k) 0)) _ h2
  rw [h1] at this
  rw [this]
  have e : l.take (i + 1 - k) = l.take (i - k) ++ [l.getD (i - k) 0] := by
    rw [show i + 1 - k = i - k + 1 by omega, List.take_succ_eq_append_getElem (by omega)]; simp [show i - k < l.length by omega]
  unfold lshL
  rw [e]
  simp [intsI]
theorem rshL_step {l : List Int} {k i : Nat} (hl : l.length = 64) (hi : i + k < 64) : setV (intsI (rshL l k i)) i [Value.int .i64 (l.getD (i + k) 0)] = intsI (rshL l k (i + 1)) := by
  have h1 : (intsI ((l.drop k).take i)).length = i := by simp; omega
  have h2 : intsI (rshL l k i) = intsI ((l.drop k).take i) ++ Value.int .i64 0 :: intsI (List.replicate (64 - (i + 1)) 0) := by
    unfold rshL
    rw [intsI_append]
    congr 1
    rw [show 64 - i = 64 - (i + 1) + 1 by omega, List.replicate_succ]; rfl
  have := setV_mid _ _ _ (Value.int .i64 (l.getD (i + k) 0)) _ h2
  rw [h1] at this
  rw [this]
  have e : (l.drop k).take (i + 1) = (l.drop k).take i ++ [l.getD (i + k) 0] := by
    rw [List.take_succ_eq_append_getElem (by simp; omega)]; simp [show k + i < l.length by omega, Nat.add_comm]
  unfold rshL
  rw [e]
  simp [intsI]
theorem lshL_B {l : List Int} {k : Nat} {v : Int} (h : IsB l 64 v) (hk : k ≤ 64) : IsB (lshL l k 64) 64 (v * 2 ^ k % 18446744073709551616) := by
  have hl := h.len
  refine ⟨by simp [lshL]; omega, (Bits.zeros k).append ((h.bits.take _).append (Bits.zeros _)), ?_⟩
  unfold lshL
  rw [valL_append, valL_append, valL_zeros, valL_take h.bits (by omega), h.val]
  simp only [Nat.sub_self, List.replicate_zero, valL, Int.mul_zero, Int.add_zero, List.length_replicate, Int.zero_add]
  have e : (18446744073709551616 : Int) = 2 ^ k * 2 ^ (64 - k) := by rw [← Int.pow_add, show k + (64 - k) = 64 by omega]; decide
  rw [e, Int.mul_comm v, Int.mul_emod_mul_of_pos _ _ (pow2_pos k)]
theorem rshL_B {l : List Int} {k : Nat} {v : Int} (h : IsB l 64 v) (hk : k ≤ 64) : IsB (rshL l k (64 - k)) 64 (v / 2 ^ k) := by
  have hl := h.len
  refine ⟨by simp [rshL]; omega, ((h.bits.drop _).take _).append (Bits.zeros _), ?_⟩
  unfold rshL
  rw [valL_append, valL_zeros, List.take_of_length_le (by simp; omega), valL_drop h.bits (by omega), h.val]
  omega

abbrev lrO (c : Nat) (l : List Int) (v : Int) : Out := .all (List Int) (fun r => IsB r 64 v) (fun r => .ret (.t (.s (.sl 1 0 64 64))) [.own 3 1 c (intsI l), .own 3 1 64 (intsI r)])
theorem left_c (c : Nat) (l : List Int) (v : Int) (k : Nat) (hl : IsB l 64 v) (hk : k ≤ 64) :
    Con Tryz.prog f_r02_left [.s (.sl 0 0 64 c), .s (.int .i64 (k : Int))] [.own 3 1 c (intsI l)] (lrO c l (v * 2 ^ k % 18446744073709551616)) := by
  intro K hK
  have hll := hl.len
  refine enter fn_r02_left rfl nt_r02_left rfl rfl (fun φ w0 β0 F => ?_)
  refine c_run tt_ok (ct := []) trivial k_r02_left [] 60 (by kernel_rfl) ?_
  refine ⟨64, ⟨rfl, rfl, by decide, by decide⟩, ?_⟩
  show WpC _ _ _ _ _
  refine c_loop (α := Nat) (fun i => k ≤ i ∧ i ≤ 64) (fun i => 64 - i)
    (fun i => [(0, .t (.s (.sl 0 0 64 c)), none), (1, .t (.s (.int .i64 (k : Int))), none), (5, .t (.s (.sl 1 0 64 64)), none), (6, .t (.s (.int .i64 (i : Int))), none)])
    (fun i => [.own 3 1 c (intsI l), .own 3 1 64 (intsI (lshL l k i))]) k ⟨Nat.le_refl _, hk⟩ ?_ ?_
  · refine into [0, 1] ⟨⟨_, rfl, rfl⟩, ⟨_, rfl, rfl⟩, ⟨_, rfl, rfl⟩, ⟨_, rfl, rfl⟩, trivial⟩ ⟨_, rfl, ?_⟩ rfl rfl rfl rfl
    have e : lshL l k k = List.replicate 64 0 := by
      unfold lshL; rw [Nat.sub_self, List.take_zero, List.nil_append, List.replicate_append_replicate]; congr 1; omega
    show [Ch.own 3 1 c (intsI l), Ch.own 3 1 64 (List.replicate 64 (Value.int .i64 0))] = [Ch.own 3 1 c (intsI l), Ch.own 3 1 64 (intsI (lshL l k k))]
    rw [e]; rfl
  · rintro i ⟨h1, h2⟩
    refine c_run' tt_ok (ct := []) trivial k_r02_left [] 60 (by kernel_rfl) (by kernel_rfl) ?_
    refine ⟨fun h3 => ?_, fun h3 => ?_⟩
    · simp only [decide_eq_true_eq] at h3
      refine ⟨i - k, ⟨by rw [wrap64 (by omega) (by omega)]; omega, by omega, by simp; omega⟩, .int .i64 (l.getD (i - k) 0), rfl, intsI_at (by omega), ?_⟩
      refine ⟨i, ⟨rfl, by omega, by simp [lshL]; omega⟩, by show 0 + i * (0 + 1) + 1 ≤ _; simp [lshL]; omega, ?_⟩
      refine e_again (i + 1) ⟨by omega, by omega⟩ (by omega) (into [0, 1] ⟨⟨_, rfl, rfl⟩, ⟨_, rfl, rfl⟩, ⟨_, rfl, rfl⟩, ⟨_, rfl, fvi (by rw [wrapSucc (by omega)])⟩, trivial⟩ ⟨_, rfl, ?_⟩ rfl rfl rfl rfl)
      show [Ch.own 3 1 c (intsI l), Ch.own 3 1 64 (setV (intsI (lshL l k i)) (0 + i * (0 + 1)) [Value.int .i64 (l.getD (i - k) 0)])] = _
      rw [show 0 + i * (0 + 1) = i by omega, lshL_step hll h1 (by omega)]; rfl
    · simp only [decide_eq_false_iff_not] at h3
      have : i = 64 := by omega
      subst this
      exact fin_k tt_ok (rs := rs_r02_left) rfl rfl (hK (lshL l k 64) (lshL_B hl hk)) [0, 1] rfl rfl rfl rfl rfl rfl
theorem right_c (c : Nat) (l : List Int) (v : Int) (k : Nat) (hl : IsB l 64 v) (hk : k ≤ 64) :
    Con Tryz.prog f_r02_right [.s (.sl 0 0 64 c), .s (.int .i64 (k : Int))] [.own 3 1 c (intsI l)] (lrO c l (v / 2 ^ k)) := by
  intro K hK
  have hll := hl.len
  refine enter fn_r02_right rfl nt_r02_right rfl rfl (fun φ w0 β0 F => ?_)
  refine c_run tt_ok (ct := []) trivial k_r02_right [] 60 (by kernel_rfl) ?_
  refine ⟨64, ⟨rfl, rfl, by decide, by decide⟩, ?_⟩
  show WpC _ _ _ _ _
  refine c_loop (α := Nat) (fun i => i + k ≤ 64) (fun i => 64 - i)
    (fun i => [(0, .t (.s (.sl 0 0 64 c)), none), (1, .t (.s (.int .i64 (k : Int))), none), (5, .t (.s (.sl 1 0 64 64)), none), (6, .t (.s (.int .i64 (i : Int))), none)])
    (fun i => [.own 3 1 c (intsI l), .own 3 1 64 (intsI (rshL l k i))]) 0 (show 0 + k ≤ 64 by omega) ?_ ?_
  · refine into [0, 1] ⟨⟨_, rfl, rfl⟩, ⟨_, rfl, rfl⟩, ⟨_, rfl, rfl⟩, ⟨_, rfl, rfl⟩, trivial⟩ ⟨_, rfl, ?_⟩ rfl rfl rfl rfl
    rfl
  · intro i h1
    refine c_run' tt_ok (ct := []) trivial k_r02_right [] 60 (by kernel_rfl) (by kernel_rfl) ?_
    refine ⟨fun h3 => ?_, fun h3 => ?_⟩
    · have ew : IntKind.i64.wrap ((i : Int) + k) = (i : Int) + k := wrap64 (by omega) (by omega)
      rw [ew] at h3
      simp only [decide_eq_true_eq] at h3
      refine ⟨i + k, ⟨by rw [ew]; omega, by omega, by simp; omega⟩, .int .i64 (l.getD (i + k) 0), rfl, intsI_at (by omega), ?_⟩
      refine ⟨i, ⟨rfl, by omega, by simp [rshL]; omega⟩, by show 0 + i * (0 + 1) + 1 ≤ _; simp [rshL]; omega, ?_⟩
      refine e_again (i + 1) (show i + 1 + k ≤ 64 by omega) (by omega) (into [0, 1] ⟨⟨_, rfl, rfl⟩, ⟨_, rfl, rfl⟩, ⟨_, rfl, rfl⟩, ⟨_, rfl, fvi (by rw [wrapSucc (by omega)])⟩, trivial⟩ ⟨_, rfl, ?_⟩ rfl rfl rfl rfl)
      show [Ch.own 3 1 c (intsI l), Ch.own 3 1 64 (setV (intsI (rshL l k i)) (0 + i * (0 + 1)) [Value.int .i64 (l.getD (i + k) 0)])] = _
      rw [show 0 + i * (0 + 1) = i by omega, rshL_step hll (by omega)]; rfl
    · have ew : IntKind.i64.wrap ((i : Int) + k) = (i : Int) + k := wrap64 (by omega) (by omega)
      rw [ew] at h3
      simp only [decide_eq_false_iff_not] at h3
      have : i = 64 - k := by omega
      subst this
      exact fin_k tt_ok (rs := rs_r02_right) rfl rfl (hK (rshL l k (64 - k)) (rshL_B hl hk)) [0, 1] rfl rfl rfl rfl rfl rfl
end Go.Proofs.L2

namespace Go.Proofs.L2
open Go Go.Sx
set_option maxRecDepth 10000

noncomputable abbrev eLeft : Ent := .st (conS (P := Tryz.prog) (f := f_r02_left) fun cargs σ0 => match cargs, σ0 with
  | [.s (.sl 0 0 n c), .s (.int .i64 k)], [.own 3 1 d xs] => some ⟨.ex (List Int × Nat × Int) fun p => .ask ((xs = intsI p.1 ∧ d = c ∧ n = 64 ∧ k = (p.2.1 : Int)) ∧ IsB p.1 64 p.2.2 ∧ p.2.1 ≤ 64) (lrO c p.1 (p.2.2 * 2 ^ p.2.1 % 18446744073709551616)),
      fun K h => by
        obtain ⟨⟨l, j, v⟩, ⟨⟨rfl, rfl, rfl, rfl⟩, h1, h2⟩, h3⟩ := h
        exact left_c _ l v j h1 h2 K h3⟩
  | _, _ => none)
noncomputable abbrev eRight : Ent := .st (conS (P := Tryz.prog) (f := f_r02_right) fun cargs σ0 => match cargs, σ0 with
  | [.s (.sl 0 0 n c), .s (.int .i64 k)], [.own 3 1 d xs] => some ⟨.ex (List Int × Nat × Int) fun p => .ask ((xs = intsI p.1 ∧ d = c ∧ n = 64 ∧ k = (p.2.1 : Int)) ∧ IsB p.1 64 p.2.2 ∧ p.2.1 ≤ 64) (lrO c p.1 (p.2.2 / 2 ^ p.2.1)),
      fun K h => by
        obtain ⟨⟨l, j, v⟩, ⟨⟨rfl, rfl, rfl, rfl⟩, h1, h2⟩, h3⟩ := h
        exact right_c _ l v j h1 h2 K h3⟩
  | _, _ => none)

noncomputable abbrev ctR : CT := [(f_r02_Value, eValue), (f_r02_Word, eRWord), (f_r02_bits, eBits), (f_r02_word, .rd rdWord), (f_r02_double, eDouble), (f_r02_plus, ePlus), (f_r02_left, eLeft), (f_r02_right, eRight)]
theorem ctR_ok : CTok Tryz.prog ctR := ⟨con_ok cal_r02_Value _, con_ok cal_r02_Word _, con_ok cal_r02_bits _, re_word, con_ok cal_r02_double _, con_ok cal_r02_plus _, con_ok cal_r02_left _, con_ok cal_r02_right _, trivial⟩

theorem seg_whole {l : List Int} {n : Nat} (h : l.length = n) : seg (intsI l) 0 (n * 1) = intsI l := by
  rw [seg_intsI, List.drop_zero, List.take_of_length_le (by omega)]
theorem valL_bit0 {l : List Int} {v : Int} (h : IsB l 32 (Uw v)) : l.getD 0 0 = v % 2 := by
  rw [valL_get h.bits (by rw [h.len]; decide), h.val, Int.pow_zero]; unfold Uw; omega
theorem e32 : (2 : Int) ^ 32 = 4294967296 := by decide
theorem e64 : (2 : Int) ^ 64 = 18446744073709551616 := by decide

theorem RSum_c (a b c : Int) (ha : I32 a) (hb : I32 b) (hc : I32 c) : Con Tryz.prog f_r02_Sum [.s (.int .i32 a), .s (.int .i32 b), .s (.int .i32 c)] [] (.ret (.tup [.s (.int .i32 (lgSum a b c)), .s (.int .i32 (lgSumC a b c))]) []) := by
  intro K hK
  refine enter fn_r02_Sum rfl nt_r02_Sum rfl rfl (fun φ w0 β0 F => ?_)
  refine c_run tt_ok ctR_ok k_r02_Sum [] 60 (by kernel_rfl) ?_
  refine ⟨ha, ?_⟩
  rintro ⟨x, cx⟩ ⟨hx, hcx⟩
  refine ⟨hb, ?_⟩
  rintro ⟨y, cy⟩ ⟨hy, hcy⟩
  refine ⟨hc, ?_⟩
  rintro ⟨z, cz⟩ ⟨hz, hcz⟩
  simp only at hx hy hz hcx hcy hcz
  refine ⟨0, ⟨rfl, by decide, by simp [hz.len]⟩, .int .i64 (z.getD 0 0), rfl, intsI_at (by rw [hz.len]; decide), ?_⟩
  refine ⟨(x, y), ⟨⟨rfl, rfl, rfl, rfl, rfl⟩, hx.len, hy.len, by decide, hx.bits, hy.bits, hz.bits.get (by rw [hz.len]; decide)⟩, ?_⟩
  rintro ⟨s, cs, co⟩ ⟨⟨hsl, hsb, hsc⟩, hco, hsv⟩
  simp only at hsl hsb hsc hco hsv
  refine ⟨s, ⟨seg_whole hsl, hsb, hsl, by decide⟩, ?_⟩
  rw [hx.val, hy.val, valL_bit0 hz, e32] at hsv
  have hr := valL_range hsb
  rw [hsl, e32] at hr
  refine fin_k tt_ok (rs := rs_r02_Sum) rfl rfl hK [] (t2 ?_ ?_) rfl rfl rfl rfl rfl
  · unfold lgSum Wd Uw at *; omega
  · rw [wrapW]; show Wd co = _; unfold lgSumC Wd Uw at *; omega

theorem RDiff_c (a b c : Int) (ha : I32 a) (hb : I32 b) (hc : I32 c) : Con Tryz.prog f_r02_Diff [.s (.int .i32 a), .s (.int .i32 b), .s (.int .i32 c)] [] (.ret (.tup [.s (.int .i32 (lgDiff a b c)), .s (.int .i32 (lgDiffC a b c))]) []) := by
  intro K hK
  refine enter fn_r02_Diff rfl nt_r02_Diff rfl rfl (fun φ w0 β0 F => ?_)
  refine c_run tt_ok ctR_ok k_r02_Diff [] 60 (by kernel_rfl) ?_
  refine ⟨ha, ?_⟩
  rintro ⟨x, cx⟩ ⟨hx, hcx⟩
  refine ⟨hb, ?_⟩
  rintro ⟨y, cy⟩ ⟨hy, hcy⟩
  refine ⟨hc, ?_⟩
  rintro ⟨z, cz⟩ ⟨hz, hcz⟩
  simp only at hx hy hz hcx hcy hcz
  refine ⟨0, ⟨rfl, by decide, by simp [hz.len]⟩, .int .i64 (z.getD 0 0), rfl, intsI_at (by rw [hz.len]; decide), ?_⟩
  show WpC _ _ _ _ _
  rw [valL_bit0 hz]
  have hxl := hx.len
  have hyl := hy.len
  refine WpC.into (nilSlot 11 3 1 rfl) ?_
  refine c_loop (α := List Int × Nat × Int) (fun p => (p.1.length ≤ 32 ∧ Bits p.1 ∧ p.1.length ≤ p.2.1) ∧ (p.2.2 = 0 ∨ p.2.2 = 1) ∧ valL p.1 = valL (x.take p.1.length) - valL (y.take p.1.length) - c % 2 + 2 ^ p.1.length * p.2.2) (fun p => 32 - p.1.length)
    (fun p => [(8, .t (.s (.sl 0 0 32 cx)), none), (9, .t (.s (.sl 1 0 32 cy)), none), (10, .t (.s (.int .i64 p.2.2)), none), (11, .t (.s (.sl 2 0 p.1.length p.2.1)), none), (12, .t (.s (.int .i64 (p.1.length : Int))), none)])
    (fun p => [.own 3 1 cx (intsI x), .own 3 1 cy (intsI y), .own 3 1 p.2.1 (intsI p.1)]) ([], 0, c % 2) ⟨⟨by simp, by intro b hb; simp at hb, by simp⟩, show c % 2 = 0 ∨ c % 2 = 1 by omega, by simp [valL]; omega⟩ ?_ ?_
  · exact into [0, 1, 3] ⟨⟨_, rfl, rfl⟩, ⟨_, rfl, rfl⟩, ⟨_, rfl, rfl⟩, ⟨_, rfl, rfl⟩, ⟨_, rfl, rfl⟩, trivial⟩ ⟨_, rfl, rfl⟩ rfl rfl rfl rfl
  · rintro ⟨s, cs, q⟩ ⟨⟨hl, hsb, hsc⟩, hq, hv⟩
    simp only at hl hsb hsc hq hv
    dsimp only
    refine c_run' tt_ok ctR_ok k_r02_Diff [] 60 (by kernel_rfl) (by kernel_rfl) ?_
    refine ⟨fun h1 => ?_, fun h1 => ?_⟩
    · simp only [decide_eq_true_eq] at h1
      have gx := hx.bits.get (i := s.length) (by omega)
      have gy := hy.bits.get (i := s.length) (by omega)
      refine ⟨s.length, ⟨rfl, by omega, by simp; omega⟩, .int .i64 (x.getD s.length 0), rfl, intsI_at (by omega), ?_⟩
      refine ⟨s.length, ⟨rfl, by omega, by simp; omega⟩, .int .i64 (y.getD s.length 0), rfl, intsI_at (by omega), ?_⟩
      have es : IntKind.i64.wrap (IntKind.i64.wrap (x.getD s.length 0 - y.getD s.length 0) - q) = x.getD s.length 0 - y.getD s.length 0 - q := by simp only [IntKind.wrap_i64]; omega
      have tk : ∀ (u : List Int), s.length < u.length → u.take (s.length + 1) = u.take s.length ++ [u.getD s.length 0] := fun u hu => by
        rw [List.take_succ_eq_append_getElem hu]; simp [hu]
      have fin : ∀ (d q' : Int), (d = 0 ∨ d = 1) → d = x.getD s.length 0 - y.getD s.length 0 - q + 2 * q' →
          valL (s ++ [d]) = valL (x.take (s ++ [d]).length) - valL (y.take (s ++ [d]).length) - c % 2 + 2 ^ (s ++ [d]).length * q' := by
        intro d q' hd he
        rw [List.length_append, List.length_singleton, tk x (by omega), tk y (by omega), valL_append, valL_append, valL_append, Int.pow_succ]
        simp only [valL, List.length_take]
        rw [Nat.min_eq_left (by omega), Nat.min_eq_left (by omega)]
        generalize (2 : Int) ^ s.length = p at *
        have e1 : p * d = p * x.getD s.length 0 - p * y.getD s.length 0 - p * q + p * 2 * q' := by
          rw [he, Int.mul_add, Int.mul_sub, Int.mul_sub, Int.mul_assoc]
        simp only [Int.mul_zero, Int.add_zero]
        omega
      refine ⟨fun h2 => ?_, fun h2 => ?_⟩
      · simp only [es, decide_eq_true_eq] at h2
        have es2 : IntKind.i64.wrap (IntKind.i64.wrap (IntKind.i64.wrap (x.getD s.length 0 - y.getD s.length 0) - q) + 2) = x.getD s.length 0 - y.getD s.length 0 - q + 2 := by rw [es, IntKind.wrap_i64]; omega
        refine ⟨⟨rfl, by simp, Nat.le_refl _, one_u rfl, by simp only [maxLen]; omega, by omega⟩, fun c' hc1 hc2 => ?_⟩
        refine e_again (s ++ [x.getD s.length 0 - y.getD s.length 0 - q + 2], c', 1) ⟨⟨by simp; omega, hsb.append (fun b hb => by rw [List.mem_singleton.1 hb]; omega), by simpa using hc1⟩, .inr rfl, fin _ 1 (by omega) (by omega)⟩ (by simp; omega)
          (into [0, 1, 4] ⟨⟨_, rfl, rfl⟩, ⟨_, rfl, rfl⟩, ⟨_, rfl, rfl⟩, ⟨_, rfl, fvsl rfl (show s.length + 1 = (s ++ [_]).length by simp) rfl⟩, ⟨_, rfl, fvi (by rw [wrapSucc (by omega), List.length_append]; rfl)⟩, trivial⟩ ⟨_, rfl, ?_⟩ rfl rfl rfl rfl)
        rw [intsI_append, ← es2]; rfl
      · simp only [es, decide_eq_false_iff_not] at h2
        refine ⟨⟨rfl, by simp, Nat.le_refl _, one_u rfl, by simp only [maxLen]; omega, by omega⟩, fun c' hc1 hc2 => ?_⟩
        refine e_again (s ++ [x.getD s.length 0 - y.getD s.length 0 - q], c', 0) ⟨⟨by simp; omega, hsb.append (fun b hb => by rw [List.mem_singleton.1 hb]; omega), by simpa using hc1⟩, .inl rfl, fin _ 0 (by omega) (by omega)⟩ (by simp; omega)
          (into [0, 1, 4] ⟨⟨_, rfl, rfl⟩, ⟨_, rfl, rfl⟩, ⟨_, rfl, rfl⟩, ⟨_, rfl, fvsl rfl (show s.length + 1 = (s ++ [_]).length by simp) rfl⟩, ⟨_, rfl, fvi (by rw [wrapSucc (by omega), List.length_append]; rfl)⟩, trivial⟩ ⟨_, rfl, ?_⟩ rfl rfl rfl rfl)
        rw [intsI_append, ← es]; rfl
    · simp only [decide_eq_false_iff_not] at h1
      have hsn : s.length = 32 := by omega
      rw [hsn, List.take_of_length_le (by omega), List.take_of_length_le (by omega), hx.val, hy.val, e32] at hv
      have hr := valL_range hsb
      rw [hsn, e32] at hr
      refine ⟨s, ⟨?_, hsb, rfl, by omega⟩, ?_⟩
      · exact seg_whole rfl
      refine fin_k tt_ok (rs := rs_r02_Diff) rfl rfl hK [] (t2 ?_ ?_) rfl rfl rfl rfl rfl
      · unfold lgDiff Wd Uw at *; omega
      · rw [wrapW]; unfold lgDiffC Wd Uw at *; omega
end Go.Proofs.L2

namespace Go.Proofs.L2
open Go Go.Sx
set_option maxRecDepth 10000

theorem pow2_le {m n : Nat} (h : m ≤ n) : (2 : Int) ^ m ≤ 2 ^ n := by
  rw [pow_split h]
  have h3 := pow2_pos (n - m)
  have h4 := pow2_pos m
  have := Int.mul_le_mul_of_nonneg_left (show (1 : Int) ≤ 2 ^ (n - m) by omega) (show (0 : Int) ≤ 2 ^ m by omega)
  omega
theorem Dv0 (b : Int) : Dv 0 b = Uw b := by unfold Dv Uw; omega
theorem I32_0 : I32 0 := ⟨by decide, by decide⟩
theorem mul_pow {b : Int} {i : Nat} (h0 : 0 ≤ b) (h1 : b < 4294967296) (hi : i < 32) : 0 ≤ b * 2 ^ i ∧ b * 2 ^ i < 18446744073709551616 := by
  have hp := pow2_pos i
  have h2 : (2 : Int) ^ i ≤ 2147483648 := by
    have e : (2147483648 : Int) = 2 ^ 31 := by decide
    rw [e, pow_split (show i ≤ 31 by omega)]
    have h3 := pow2_pos (31 - i)
    have := Int.mul_le_mul_of_nonneg_left (show (1 : Int) ≤ 2 ^ (31 - i) by omega) (show (0 : Int) ≤ 2 ^ i by omega)
    omega
  have := mul_range h0 h1 (show (0 : Int) ≤ 2 ^ i by omega) (by omega)
  omega
theorem seg_off {l : List Int} {off n : Nat} : seg (intsI l) off (n * 1) = intsI ((l.drop off).take n) := by rw [Nat.mul_one, seg_intsI]
theorem lo_half {l : List Int} {v : Int} (h : IsB l 64 v) : Bits (l.take 32) ∧ (l.take 32).length = 32 ∧ Wd (valL (l.take 32)) = Wd v := by
  have hl := h.len
  refine ⟨h.bits.take _, by simp; omega, ?_⟩
  rw [valL_take h.bits (by omega), h.val, e32]; unfold Wd; omega
theorem hi_half {l : List Int} {v : Int} (h : IsB l 64 v) : Bits (l.drop 32) ∧ (l.drop 32).length = 32 ∧ valL (l.drop 32) = v / 4294967296 := by
  have hl := h.len
  refine ⟨h.bits.drop _, by simp; omega, ?_⟩
  rw [valL_drop h.bits (by omega), h.val, e32]

theorem RMul_c (a b c : Int) (ha : I32 a) (hb : I32 b) (hc : I32 c) : Con Tryz.prog f_r02_Mul [.s (.int .i32 a), .s (.int .i32 b), .s (.int .i32 c)] [] (.ret (.tup [.s (.int .i32 (lgMul a b c)), .s (.int .i32 (lgMulH a b c))]) []) := by
  intro K hK
  refine enter fn_r02_Mul rfl nt_r02_Mul rfl rfl (fun φ w0 β0 F => ?_)
  refine c_run tt_ok ctR_ok k_r02_Mul [] 60 (by kernel_rfl) ?_
  refine ⟨ha, ?_⟩
  rintro ⟨x, cx⟩ ⟨hx, hcx⟩
  refine ⟨⟨I32_0, hc⟩, ?_⟩
  rintro ⟨l0, cl0⟩ ⟨hl0, hcl0⟩
  simp only at hx hl0 hcx hcl0
  have hxl := hx.len
  show WpC _ _ _ _ _
  refine c_loop (α := List Int × Nat × Nat) (fun p => p.2.2 ≤ 32 ∧ 64 ≤ p.2.1 ∧ IsB p.1 64 (Uw c + valL (x.take p.2.2) * Uw b)) (fun p => 32 - p.2.2)
    (fun p => [(1, .t (.s (.int .i32 b)), none), (8, .t (.s (.sl 0 0 32 cx)), none), (9, .t (.s (.sl 1 0 64 p.2.1)), none), (10, .t (.s (.int .i64 (p.2.2 : Int))), none)])
    (fun p => [.own 3 1 cx (intsI x), .own 3 1 p.2.1 (intsI p.1)]) (l0, cl0, 0) ⟨by simp, hcl0, by have h := hl0; rw [Dv0] at h; simpa [valL] using h⟩ ?_ ?_
  · exact into [0, 1] ⟨⟨_, rfl, rfl⟩, ⟨_, rfl, rfl⟩, ⟨_, rfl, rfl⟩, ⟨_, rfl, rfl⟩, trivial⟩ ⟨_, rfl, rfl⟩ rfl rfl rfl rfl
  · rintro ⟨l, cl, i⟩ ⟨hi, hcl, hl⟩
    simp only at hi hcl hl
    dsimp only
    have hrx : ∀ k, k ≤ 32 → 0 ≤ valL (x.take k) ∧ valL (x.take k) < 4294967296 := fun k hk => by
      have h1 := valL_range (hx.bits.take k)
      have h2 := pow2_le hk
      rw [List.length_take, Nat.min_eq_left (by omega)] at h1
      rw [e32] at h2
      omega
    refine c_run' tt_ok ctR_ok k_r02_Mul [] 60 (by kernel_rfl) (by kernel_rfl) ?_
    refine ⟨fun h1 => ?_, fun h1 => ?_⟩
    · simp only [decide_eq_true_eq] at h1
      have hi32 : i < 32 := by omega
      have gx := hx.bits.get (i := i) (by omega)
      have tk : x.take (i + 1) = x.take i ++ [x.getD i 0] := by
        rw [List.take_succ_eq_append_getElem (by omega)]; simp [show i < x.length by omega]
      have tv : valL (x.take (i + 1)) = valL (x.take i) + 2 ^ i * x.getD i 0 := by
        rw [tk, valL_append, List.length_take, Nat.min_eq_left (by omega)]; simp [valL]
      refine ⟨i, ⟨rfl, by omega, by simp; omega⟩, .int .i64 (x.getD i 0), rfl, intsI_at (by omega), ?_⟩
      refine ⟨fun h2 => ?_, fun h2 => ?_⟩
      · have h2' : x.getD i 0 = 1 := by simpa using h2
        refine ⟨⟨I32_0, hb⟩, ?_⟩
        rintro ⟨d, cd⟩ ⟨hd, hcd⟩
        simp only at hd hcd
        rw [Dv0] at hd
        refine ⟨(d, i, Uw b), ⟨⟨rfl, rfl, rfl, rfl⟩, hd, show i ≤ 64 by omega⟩, ?_⟩
        intro r hr
        have hmp := mul_pow (Uw_lo b) (Uw_hi b) hi32
        rw [Int.emod_eq_of_lt hmp.1 hmp.2] at hr
        refine ⟨(l, r), ⟨⟨rfl, rfl, rfl, rfl, rfl⟩, hl.len, hr.len, by decide, hl.bits, hr.bits, .inl rfl⟩, ?_⟩
        rintro ⟨s, cs, co⟩ ⟨⟨hsl, hsb, hsc⟩, hco, hsv⟩
        simp only at hsl hsb hsc hco hsv
        rw [hl.val, hr.val, e64] at hsv
        rw [h2', Int.mul_one] at tv
        have hrs := valL_range hsb
        rw [hsl, e64] at hrs
        have hbd := mul_range (hrx (i + 1) (by omega)).1 (hrx (i + 1) (by omega)).2 (Uw_lo b) (Uw_hi b)
        have hcb := Uw_hi c
        have hcb' := Uw_lo c
        have e1 : valL (x.take (i + 1)) * Uw b = valL (x.take i) * Uw b + Uw b * 2 ^ i := by rw [tv, Int.add_mul, Int.mul_comm (2 ^ i)]
        refine e_again (s, cs, i + 1) ⟨show i + 1 ≤ 32 by omega, hsc, hsl, hsb, ?_⟩ (show 32 - (i + 1) < 32 - i by omega) (into [0, 4] ⟨⟨_, rfl, rfl⟩, ⟨_, rfl, rfl⟩, ⟨_, rfl, rfl⟩, ⟨_, rfl, fvi (wrapSucc (by omega))⟩, trivial⟩ ⟨_, rfl, rfl⟩ rfl rfl rfl rfl)
        show valL s = Uw c + valL (x.take (i + 1)) * Uw b
        rcases hco with rfl | rfl <;> omega
      · have h2' : x.getD i 0 = 0 := by
          have : ¬ x.getD i 0 = 1 := fun e => by rw [e] at h2; exact absurd h2 (by decide)
          omega
        rw [h2', Int.mul_zero, Int.add_zero] at tv
        refine e_again (l, cl, i + 1) ⟨show i + 1 ≤ 32 by omega, hcl, hl.len, hl.bits, ?_⟩ (show 32 - (i + 1) < 32 - i by omega) (into [0, 1] ⟨⟨_, rfl, rfl⟩, ⟨_, rfl, rfl⟩, ⟨_, rfl, rfl⟩, ⟨_, rfl, fvi (wrapSucc (by omega))⟩, trivial⟩ ⟨_, rfl, rfl⟩ rfl rfl rfl rfl)
        show valL l = Uw c + valL (x.take (i + 1)) * Uw b
        rw [tv]; exact hl.val
    · simp only [decide_eq_false_iff_not] at h1
      have hi32 : i = 32 := by omega
      subst hi32
      rw [List.take_of_length_le (by omega), hx.val] at hl
      have hlo := lo_half hl
      have hhi := hi_half hl
      refine ⟨0, 32, ⟨_, _, rfl, rfl, rfl, rfl⟩, ⟨by decide, by omega⟩, fun off' ho => ?_⟩
      have ho' : off' = 0 := (ho (by omega)).trans (by simp)
      subst ho'
      refine ⟨l.take 32, ⟨by rw [seg_off]; rfl, hlo.1, hlo.2.1, by decide⟩, ?_⟩
      refine ⟨32, 64, ⟨_, _, rfl, rfl, rfl, rfl⟩, ⟨by decide, by omega⟩, fun off2 ho2 => ?_⟩
      rcases Nat.lt_or_ge 32 cl with hc32 | hc32
      · have ho' : off2 = 32 := (ho2 (by omega)).trans (by simp)
        subst ho'
        refine ⟨l.drop 32, ⟨by rw [seg_off, List.take_of_length_le (by rw [hhi.2.1]; decide)], hhi.1, hhi.2.1, by decide⟩, ?_⟩
        have hcomm : Uw c + Uw a * Uw b = Uw a * Uw b + Uw c := Int.add_comm _ _
        refine fin_k tt_ok (rs := rs_r02_Mul) rfl rfl hK [] (t2 ?_ ?_) rfl rfl rfl rfl rfl
        · rw [hlo.2.2, hcomm]; rfl
        · rw [hhi.2.2, hcomm]; rfl
      · omega

theorem RShl_c (hi lo n : Int) (h1 : I32 hi) (h2 : I32 lo) (h3 : I32 n) : Con Tryz.prog f_r02_Shl [.s (.int .i32 hi), .s (.int .i32 lo), .s (.int .i32 n)] [] (.ret (.tup [.s (.int .i32 (lgShlH hi lo n)), .s (.int .i32 (lgShl hi lo n))]) []) := by
  intro K hK
  refine enter fn_r02_Shl rfl nt_r02_Shl rfl rfl (fun φ w0 β0 F => ?_)
  refine c_run tt_ok ctR_ok k_r02_Shl [] 60 (by kernel_rfl) ?_
  refine ⟨h3, fun h => ?_, fun h => ?_⟩
  · simp only [ge_iff_le, decide_eq_true_eq] at h
    have e : shlV (Dv hi lo) n = 0 := by
      unfold shlV
      rw [pow_split (show 64 ≤ (Uw n).toNat by omega), e64, ← Int.mul_assoc, Int.mul_comm (Dv hi lo), Int.mul_assoc, Int.mul_emod_right]
    refine fin_k tt_ok (rs := rs_r02_Shl) rfl rfl hK [] (t2 ?_ ?_) rfl rfl rfl rfl rfl
    · unfold lgShlH; rw [e]; rfl
    · unfold lgShl; rw [e]; rfl
  · simp only [ge_iff_le, decide_eq_false_iff_not] at h
    have hn : n = ((Uw n).toNat : Int) ∧ (Uw n).toNat < 64 := by unfold Uw I32 at *; omega
    refine ⟨⟨h1, h2⟩, ?_⟩
    rintro ⟨d, cd⟩ ⟨hd, hcd⟩
    simp only at hd hcd
    refine ⟨(d, (Uw n).toNat, Dv hi lo), ⟨⟨rfl, rfl, rfl, by rw [wrap64 (by omega) (by omega)]; exact hn.1⟩, hd, show (Uw n).toNat ≤ 64 by omega⟩, ?_⟩
    intro r hr
    have hlo := lo_half hr
    have hhi := hi_half hr
    refine ⟨32, 64, ⟨_, _, rfl, rfl, rfl, rfl⟩, ⟨by decide, by decide⟩, fun off2 ho2 => ?_⟩
    have ho' : off2 = 32 := (ho2 (by decide)).trans (by simp)
    subst ho'
    refine ⟨r.drop 32, ⟨by rw [seg_off, List.take_of_length_le (by rw [hhi.2.1]; decide)], hhi.1, hhi.2.1, by decide⟩, ?_⟩
    refine ⟨0, 32, ⟨_, _, rfl, rfl, rfl, rfl⟩, ⟨by decide, by decide⟩, fun off' ho => ?_⟩
    have ho' : off' = 0 := (ho (by decide)).trans (by simp)
    subst ho'
    refine ⟨r.take 32, ⟨by rw [seg_off]; rfl, hlo.1, hlo.2.1, by decide⟩, ?_⟩
    refine fin_k tt_ok (rs := rs_r02_Shl) rfl rfl hK [] (t2 ?_ ?_) rfl rfl rfl rfl rfl
    · rw [hhi.2.2]; rfl
    · rw [hlo.2.2]; rfl
theorem RShr_c (hi lo n : Int) (h1 : I32 hi) (h2 : I32 lo) (h3 : I32 n) : Con Tryz.prog f_r02_Shr [.s (.int .i32 hi), .s (.int .i32 lo), .s (.int .i32 n)] [] (.ret (.tup [.s (.int .i32 (lgShrH hi lo n)), .s (.int .i32 (lgShr hi lo n))]) []) := by
  intro K hK
  refine enter fn_r02_Shr rfl nt_r02_Shr rfl rfl (fun φ w0 β0 F => ?_)
  refine c_run tt_ok ctR_ok k_r02_Shr [] 60 (by kernel_rfl) ?_
  refine ⟨h3, fun h => ?_, fun h => ?_⟩
  · simp only [ge_iff_le, decide_eq_true_eq] at h
    have e : shrV (Dv hi lo) n = 0 := by
      unfold shrV
      refine Int.ediv_eq_zero_of_lt (Dv_lo _ _) (Int.lt_of_lt_of_le (Dv_hi _ _) ?_)
      rw [pow_split (show 64 ≤ (Uw n).toNat by omega), e64]
      have h3 := pow2_pos ((Uw n).toNat - 64)
      have := Int.mul_le_mul_of_nonneg_left (show (1 : Int) ≤ 2 ^ ((Uw n).toNat - 64) by omega) (show (0 : Int) ≤ 18446744073709551616 by decide)
      omega
    refine fin_k tt_ok (rs := rs_r02_Shr) rfl rfl hK [] (t2 ?_ ?_) rfl rfl rfl rfl rfl
    · unfold lgShrH; rw [e]; rfl
    · unfold lgShr; rw [e]; rfl
  · simp only [ge_iff_le, decide_eq_false_iff_not] at h
    have hn : n = ((Uw n).toNat : Int) ∧ (Uw n).toNat < 64 := by unfold Uw I32 at *; omega
    refine ⟨⟨h1, h2⟩, ?_⟩
    rintro ⟨d, cd⟩ ⟨hd, hcd⟩
    simp only at hd hcd
    refine ⟨(d, (Uw n).toNat, Dv hi lo), ⟨⟨rfl, rfl, rfl, by rw [wrap64 (by omega) (by omega)]; exact hn.1⟩, hd, show (Uw n).toNat ≤ 64 by omega⟩, ?_⟩
    intro r hr
    have hlo := lo_half hr
    have hhi := hi_half hr
    refine ⟨32, 64, ⟨_, _, rfl, rfl, rfl, rfl⟩, ⟨by decide, by decide⟩, fun off2 ho2 => ?_⟩
    have ho' : off2 = 32 := (ho2 (by decide)).trans (by simp)
    subst ho'
    refine ⟨r.drop 32, ⟨by rw [seg_off, List.take_of_length_le (by rw [hhi.2.1]; decide)], hhi.1, hhi.2.1, by decide⟩, ?_⟩
    refine ⟨0, 32, ⟨_, _, rfl, rfl, rfl, rfl⟩, ⟨by decide, by decide⟩, fun off' ho => ?_⟩
    have ho' : off' = 0 := (ho (by decide)).trans (by simp)
    subst ho'
    refine ⟨r.take 32, ⟨by rw [seg_off]; rfl, hlo.1, hlo.2.1, by decide⟩, ?_⟩
    refine fin_k tt_ok (rs := rs_r02_Shr) rfl rfl hK [] (t2 ?_ ?_) rfl rfl rfl rfl rfl
    · rw [hhi.2.2]; rfl
    · rw [hlo.2.2]; rfl
end Go.Proofs.L2

namespace Go.Proofs.L2
open Go Go.Sx
set_option maxRecDepth 10000

theorem valL_set {l : List Int} {i : Nat} (hi : i < l.length) (h0 : l.getD i 0 = 0) : valL (l.set i 1) = valL l + 2 ^ i := by
  have e : l = l.take i ++ (0 :: l.drop (i + 1)) := by
    have h := List.take_append_drop i l
    have hd : l.drop i = l.getD i 0 :: l.drop (i + 1) := by rw [List.drop_eq_getElem_cons hi]; simp [hi]
    rw [hd, h0] at h; exact h.symm
  have e2 : l.set i 1 = l.take i ++ (1 :: l.drop (i + 1)) := by
    rw [List.set_eq_take_append_cons_drop, if_pos hi]
  have e3 : valL l = valL (l.take i ++ (0 :: l.drop (i + 1))) := congrArg valL e
  rw [e2, e3, valL_append, valL_append, List.length_take, Nat.min_eq_left (by omega)]
  simp only [valL, Int.mul_add, Int.mul_zero, Int.mul_one]; omega
theorem setV_ints {l : List Int} {i : Nat} (v : Int) (hi : i < l.length) : setV (intsI l) i [Value.int .i64 v] = intsI (l.set i v) := by
  rw [List.set_eq_take_append_cons_drop, if_pos hi]
  simp [setV, intsI, List.map_take, List.map_drop]

/-- One step of the division, bit by bit. -/
theorem div_step {A d b : Int} (hd : 0 < d) (hb : b = 0 ∨ b = 1) (_hA : 0 ≤ A) :
    (2 * (A % d) + b ≥ d → (2 * A + b) / d = 2 * (A / d) + 1 ∧ (2 * A + b) % d = 2 * (A % d) + b - d) ∧
    (¬ 2 * (A % d) + b ≥ d → (2 * A + b) / d = 2 * (A / d) ∧ (2 * A + b) % d = 2 * (A % d) + b) := by
  have h1 := Int.emod_nonneg A (show d ≠ 0 by omega)
  have h2 := Int.emod_lt_of_pos A hd
  have h3 := Int.mul_ediv_add_emod A d
  refine ⟨fun h => ?_, fun h => ?_⟩
  · have := (Int.ediv_emod_unique (a := 2 * A + b) (b := d) (q := 2 * (A / d) + 1) (r := 2 * (A % d) + b - d) hd).2 ⟨by
      rw [Int.mul_add, Int.mul_one, Int.mul_left_comm]
      omega, by omega, by omega⟩
    exact this
  · have := (Int.ediv_emod_unique (a := 2 * A + b) (b := d) (q := 2 * (A / d)) (r := 2 * (A % d) + b) hd).2 ⟨by
      rw [Int.mul_left_comm]
      omega, by omega, by omega⟩
    exact this

theorem RDiv_c (hi lo d : Int) (h1 : I32 hi) (h2 : I32 lo) (h3 : I32 d) : Con Tryz.prog f_r02_Div [.s (.int .i32 hi), .s (.int .i32 lo), .s (.int .i32 d)] []
    (.br (lgDivO hi d) (.ret (.tup [.s (.int .i32 0), .s (.int .i32 0), .s (.bool true)]) []) (.ret (.tup [.s (.int .i32 (lgDiv hi lo d)), .s (.int .i32 (lgRem hi lo d)), .s (.bool false)]) [])) := by
  intro K ⟨hK1, hK2⟩
  refine enter fn_r02_Div rfl nt_r02_Div rfl rfl (fun φ w0 β0 F => ?_)
  refine c_run tt_ok ctR_ok k_r02_Div [] 60 (by kernel_rfl) ?_
  refine ⟨h1, h3, fun h => ?_, fun h => ?_⟩
  · exact fin_k tt_ok (rs := rs_r02_Div) rfl rfl (hK1 h) [] rfl rfl rfl rfl rfl rfl
  have hK := hK2 h
  simp only [ge_iff_le, decide_eq_false_iff_not] at h
  have hd0 : 0 < Uw d := by have := Uw_lo hi; omega
  refine ⟨⟨h1, h2⟩, ?_⟩
  rintro ⟨l, cl⟩ ⟨hl, hcl⟩
  simp only at hl hcl
  have hll := hl.len
  refine ⟨64, ⟨rfl, rfl, by decide, by decide⟩, ?_⟩
  show WpC _ _ _ _ _
  have hz0 := Dv_lo hi lo
  have hz1 := Dv_hi hi lo
  generalize hz : Dv hi lo = z at *
  have hdiv0 : ∀ j : Nat, 0 ≤ z / 2 ^ j := fun j => Int.ediv_nonneg hz0 (by have := pow2_pos j; omega)
  refine c_loop (α := Nat × List Int) (fun p => p.1 ≤ 64 ∧ p.2.length = 64 ∧ Bits p.2 ∧ (∀ i, i < p.1 → p.2.getD i 0 = 0) ∧ valL p.2 = 2 ^ p.1 * (z / 2 ^ p.1 / Uw d)) (fun p => p.1)
    (fun p => [(2, .t (.s (.int .i32 d)), none), (9, .t (.s (.sl 0 0 64 cl)), none), (10, .t (.s (.sl 1 0 64 64)), none), (11, .t (.s (.int .i64 (z / 2 ^ p.1 % Uw d))), none), (12, .t (.s (.int .i64 ((p.1 : Int) - 1))), none)])
    (fun p => [.own 3 1 cl (intsI l), .own 3 1 64 (intsI p.2)]) (64, List.replicate 64 0) ⟨by simp, by simp, Bits.zeros 64, fun i hi => by show (List.replicate 64 (0 : Int)).getD i 0 = 0; rw [List.getD_eq_getElem?_getD, List.getElem?_replicate]; split <;> rfl, ?_⟩ ?_ ?_
  · rw [valL_zeros, e64, Int.ediv_eq_zero_of_lt hz0 hz1, Int.zero_ediv]; rfl
  · refine into [0, 1] ⟨⟨_, rfl, rfl⟩, ⟨_, rfl, rfl⟩, ⟨_, rfl, rfl⟩, ⟨_, rfl, fvi ?_⟩, ⟨_, rfl, fvi (by decide)⟩, trivial⟩ ⟨_, rfl, rfl⟩ rfl rfl rfl rfl
    show (0 : Int) = z / 2 ^ 64 % Uw d
    rw [e64, Int.ediv_eq_zero_of_lt hz0 hz1, Int.zero_emod]
  · rintro ⟨j, q⟩ ⟨hj, hq, hqb, hqz, hqv⟩
    simp only at hj hq hqb hqz hqv
    dsimp only
    refine c_run' tt_ok ctR_ok k_r02_Div [] 60 (by kernel_rfl) (by kernel_rfl) ?_
    refine ⟨fun h4 => ?_, fun h4 => ?_⟩
    · simp only [ge_iff_le, decide_eq_true_eq] at h4
      obtain ⟨i, rfl⟩ : ∃ i, j = i + 1 := ⟨j - 1, by omega⟩
      have gl := hl.bits.get (i := i) (by omega)
      have hgv : l.getD i 0 = z / 2 ^ i % 2 := by rw [valL_get hl.bits (by omega), hl.val]
      have hA : z / 2 ^ i = 2 * (z / 2 ^ (i + 1)) + l.getD i 0 := by
        have e : z / 2 ^ (i + 1) = z / 2 ^ i / 2 := by rw [Int.pow_succ, Int.ediv_ediv_of_nonneg (by have := pow2_pos i; omega)]
        rw [e, hgv]; omega
      have hst := div_step (A := z / 2 ^ (i + 1)) hd0 gl (hdiv0 _)
      rw [← hA] at hst
      have hr0 := Int.emod_nonneg (z / 2 ^ (i + 1)) (show Uw d ≠ 0 by omega)
      have hr1 := Int.emod_lt_of_pos (z / 2 ^ (i + 1)) hd0
      have hdu := Uw_hi d
      refine ⟨i, ⟨by omega, by omega, by simp; omega⟩, .int .i64 (l.getD i 0), rfl, intsI_at (by omega), h3, ?_⟩
      generalize l.getD i 0 = b at *
      generalize hR : z / 2 ^ (i + 1) % Uw d = R at *
      have ew : IntKind.i64.wrap (IntKind.i64.wrap (2 * R) + b) = 2 * R + b := by simp only [IntKind.wrap_i64]; omega
      have ei : IntKind.i64.wrap (((i + 1 : Nat) : Int) - 1 - 1) = (i : Int) - 1 := by simp only [IntKind.wrap_i64]; omega
      refine ⟨fun h5 => ?_, fun h5 => ?_⟩
      · simp only [ew, ge_iff_le, decide_eq_true_eq] at h5
        obtain ⟨hq1, hr2⟩ := hst.1 h5
        refine ⟨h3, ?_⟩
        refine ⟨i, ⟨by omega, by omega, by simp; omega⟩, by show 0 + i * (0 + 1) + 1 ≤ _; simp; omega, ?_⟩
        refine e_again (i, q.set i 1) ⟨show i ≤ 64 by omega, by simp [hq], ?_, ?_, ?_⟩ (show i < i + 1 by omega)
          (into [0, 1] ⟨⟨_, rfl, rfl⟩, ⟨_, rfl, rfl⟩, ⟨_, rfl, rfl⟩, ⟨_, rfl, fvi ?_⟩, ⟨_, rfl, fvi ei⟩, trivial⟩ ⟨_, rfl, ?_⟩ rfl rfl rfl rfl)
        · intro b' hb'
          rcases List.mem_or_eq_of_mem_set hb' with h' | h'
          · exact hqb b' h'
          · exact .inr h'
        · intro k hk
          show (q.set i 1).getD k 0 = 0
          have hk' : k < i := hk
          have := hqz k (by omega)
          simp only [List.getD_eq_getElem?_getD] at this ⊢
          rw [List.getElem?_set_ne (by omega)]; exact this
        · show valL (q.set i 1) = 2 ^ i * (z / 2 ^ i / Uw d)
          rw [valL_set (by omega) (hqz i (by omega)), hqv, hq1, Int.pow_succ, Int.mul_add, Int.mul_one, Int.mul_assoc]
        · show IntKind.i64.wrap (IntKind.i64.wrap (IntKind.i64.wrap (2 * R) + b) - Uw d) = z / 2 ^ i % Uw d
          rw [ew, hr2]; simp only [IntKind.wrap_i64]; omega
        · show [Ch.own 3 1 cl (intsI l), Ch.own 3 1 64 (setV (intsI q) (0 + i * (0 + 1)) [Value.int .i64 1])] = _
          rw [show 0 + i * (0 + 1) = i by omega, setV_ints 1 (by omega)]; rfl
      · simp only [ew, ge_iff_le, decide_eq_false_iff_not] at h5
        obtain ⟨hq1, hr2⟩ := hst.2 h5
        refine e_again (i, q) ⟨show i ≤ 64 by omega, hq, hqb, fun k hk => hqz k (Nat.lt_succ_of_lt hk), ?_⟩ (show i < i + 1 by omega)
          (into [0, 1] ⟨⟨_, rfl, rfl⟩, ⟨_, rfl, rfl⟩, ⟨_, rfl, rfl⟩, ⟨_, rfl, fvi ?_⟩, ⟨_, rfl, fvi ei⟩, trivial⟩ ⟨_, rfl, rfl⟩ rfl rfl rfl rfl)
        · show valL q = 2 ^ i * (z / 2 ^ i / Uw d)
          rw [hqv, hq1, Int.pow_succ, Int.mul_assoc]
        · show IntKind.i64.wrap (IntKind.i64.wrap (2 * R) + b) = z / 2 ^ i % Uw d
          rw [ew, hr2]
    · simp only [ge_iff_le, decide_eq_false_iff_not] at h4
      have hj0 : j = 0 := by omega
      subst hj0
      simp only [Int.pow_zero, Int.ediv_one, Int.one_mul] at hqv
      have hQ : IsB q 64 (z / Uw d) := ⟨hq, hqb, hqv⟩
      have hlo := lo_half hQ
      refine ⟨0, 32, ⟨_, _, rfl, rfl, rfl, rfl⟩, ⟨by decide, by decide⟩, fun off' ho => ?_⟩
      have ho' : off' = 0 := (ho (by decide)).trans (by simp)
      subst ho'
      refine ⟨q.take 32, ⟨by rw [seg_off]; rfl, hlo.1, hlo.2.1, by decide⟩, ?_⟩
      simp only [Int.pow_zero, Int.ediv_one]
      have hr0 := Int.emod_nonneg z (show Uw d ≠ 0 by omega)
      have hr1 := Int.emod_lt_of_pos z hd0
      refine ⟨⟨hr0, Int.lt_trans hr1 (Uw_hi d)⟩, ?_⟩
      refine fin_k tt_ok (rs := rs_r02_Div) rfl rfl hK [] (t3b ?_ ?_ rfl) rfl rfl rfl rfl rfl
      · rw [hlo.2.2, ← hz]; rfl
      · rw [← hz]; rfl
end Go.Proofs.L2

namespace Go.Proofs.L2
open Go Go.Sx
set_option maxRecDepth 10000

theorem wrap_c (s : Int) (h0 : -1099511627776 ≤ s) (h1 : s ≤ 1099511627776) : Con Tryz.prog f_r02_wrap [.s (.int .i64 s)] [] (.ret (.tup [.s (.int .i32 (Wd s)), .s (.bool (s != Wd s))]) []) := by
  intro K hK
  refine enter fn_r02_wrap rfl nt_r02_wrap rfl rfl (fun φ w0 β0 F => ?_)
  refine c_run tt_ok (ct := []) trivial k_r02_wrap [] 60 (by kernel_rfl) ?_
  show WpC _ _ _ _ _
  have ho : (bif decide (s < -2147483648) then true else decide (s ≥ 2147483648)) = (s != Wd s) := by
    by_cases a : s < -2147483648
    · rw [decide_eq_true a]
      have : s ≠ Wd s := by unfold Wd; omega
      simp [this]
    · rw [decide_eq_false a]
      by_cases b : s ≥ 2147483648
      · rw [decide_eq_true b]
        have : s ≠ Wd s := by unfold Wd; omega
        simp [this]
      · rw [decide_eq_false b]
        have : s = Wd s := by unfold Wd; omega
        simp [← this]
  refine c_loop (α := Int) (fun x => Wd x = Wd s ∧ -1099511627776 ≤ x ∧ x ≤ 1099511627776) (fun x => (x + 2199023255552).toNat)
    (fun x => [(0, .t (.s (.int .i64 x)), none), (4, .t (.s (.bool (s != Wd s))), none)]) (fun _ => []) s ⟨rfl, h0, h1⟩ ?_ ?_
  · exact into [] ⟨⟨_, rfl, rfl⟩, ⟨_, rfl, fvb ho⟩, trivial⟩ ⟨_, rfl, rfl⟩ rfl rfl rfl rfl
  · rintro x ⟨hx, hx0, hx1⟩
    refine c_run' tt_ok (ct := []) trivial k_r02_wrap [] 60 (by kernel_rfl) (by kernel_rfl) ?_
    refine ⟨fun h2 => ?_, fun h2 => ?_⟩
    · simp only [ge_iff_le, decide_eq_true_eq] at h2
      refine e_again (x - 4294967296) ⟨by rw [← hx]; unfold Wd; omega, by omega, by omega⟩ (by omega) (into [] ⟨⟨_, rfl, fvi (by simp only [IntKind.wrap_i64]; omega)⟩, ⟨_, rfl, rfl⟩, trivial⟩ ⟨_, rfl, rfl⟩ rfl rfl rfl rfl)
    · simp only [ge_iff_le, decide_eq_false_iff_not] at h2
      show WpC _ _ _ _ _
      refine c_loop (α := Int) (fun x => Wd x = Wd s ∧ -1099511627776 ≤ x ∧ x < 2147483648) (fun x => (2147483648 - x).toNat)
        (fun x => [(0, .t (.s (.int .i64 x)), none), (4, .t (.s (.bool (s != Wd s))), none)]) (fun _ => []) x ⟨hx, hx0, by omega⟩ ?_ ?_
      · exact into [] ⟨⟨_, rfl, rfl⟩, ⟨_, rfl, rfl⟩, trivial⟩ ⟨_, rfl, rfl⟩ rfl rfl rfl rfl
      · rintro y ⟨hy, hy0, hy1⟩
        refine c_run' tt_ok (ct := []) trivial k_r02_wrap [] 60 (by kernel_rfl) (by kernel_rfl) ?_
        refine ⟨fun h3 => ?_, fun h3 => ?_⟩
        · simp only [decide_eq_true_eq] at h3
          refine e_again (y + 4294967296) ⟨by rw [← hy]; unfold Wd; omega, by omega, by omega⟩ (by omega) (into [] ⟨⟨_, rfl, fvi (by simp only [IntKind.wrap_i64]; omega)⟩, ⟨_, rfl, rfl⟩, trivial⟩ ⟨_, rfl, rfl⟩ rfl rfl rfl rfl)
        · simp only [decide_eq_false_iff_not] at h3
          refine fin_k tt_ok (rs := rs_r02_wrap) rfl rfl hK [] (t2b ?_ rfl) rfl rfl rfl rfl rfl
          rw [wrapW, ← hy]
noncomputable abbrev eWrap : Ent := .st (conS (P := Tryz.prog) (f := f_r02_wrap) fun cargs σ0 => match cargs, σ0 with
  | [.s (.int .i64 s)], [] => some ⟨.ask (-1099511627776 ≤ s ∧ s ≤ 1099511627776) (.ret (.tup [.s (.int .i32 (Wd s)), .s (.bool (s != Wd s))]) []), fun K h => wrap_c s h.1.1 h.1.2 K h.2⟩
  | _, _ => none)
noncomputable abbrev ctX : CT := [(f_r02_bits, eBits), (f_r02_wrap, eWrap)]
theorem ctX_ok : CTok Tryz.prog ctX := ⟨con_ok cal_r02_bits _, con_ok cal_r02_wrap _, trivial⟩

theorem RAdd_c (a b c : Int) (ha : I32 a) (hb : I32 b) (hc : I32 c) : Con Tryz.prog f_r02_Add [.s (.int .i32 a), .s (.int .i32 b), .s (.int .i32 c)] [] (.ret (.tup [.s (.int .i32 (lgAdd a b c)), .s (.bool (lgAddO a b c))]) []) := by
  intro K hK
  refine enter fn_r02_Add rfl nt_r02_Add rfl rfl (fun φ w0 β0 F => ?_)
  refine c_run tt_ok ctX_ok k_r02_Add [] 60 (by kernel_rfl) ?_
  refine ⟨hc, ?_⟩
  rintro ⟨z, cz⟩ ⟨hz, hcz⟩
  simp only at hz hcz
  refine ⟨0, ⟨rfl, by decide, by simp [hz.len]⟩, .int .i64 (z.getD 0 0), rfl, intsI_at (by rw [hz.len]; decide), ?_⟩
  have e : IntKind.i64.wrap (IntKind.i64.wrap (IntKind.i64.wrap a + IntKind.i64.wrap b) + z.getD 0 0) = a + b + c % 2 := by
    rw [valL_bit0 hz]; unfold I32 at ha hb; simp only [IntKind.wrap_i64]; omega
  refine ⟨by rw [e]; unfold I32 at ha hb; omega, ?_⟩
  exact fin_k tt_ok (rs := rs_r02_Add) rfl rfl hK [] (t2b (by rw [e]; rfl) (by rw [e]; rfl)) rfl rfl rfl rfl rfl
theorem RSub_c (a b c : Int) (ha : I32 a) (hb : I32 b) (hc : I32 c) : Con Tryz.prog f_r02_Sub [.s (.int .i32 a), .s (.int .i32 b), .s (.int .i32 c)] [] (.ret (.tup [.s (.int .i32 (lgSub a b c)), .s (.bool (lgSubO a b c))]) []) := by
  intro K hK
  refine enter fn_r02_Sub rfl nt_r02_Sub rfl rfl (fun φ w0 β0 F => ?_)
  refine c_run tt_ok ctX_ok k_r02_Sub [] 60 (by kernel_rfl) ?_
  refine ⟨hc, ?_⟩
  rintro ⟨z, cz⟩ ⟨hz, hcz⟩
  simp only at hz hcz
  refine ⟨0, ⟨rfl, by decide, by simp [hz.len]⟩, .int .i64 (z.getD 0 0), rfl, intsI_at (by rw [hz.len]; decide), ?_⟩
  have e : IntKind.i64.wrap (IntKind.i64.wrap (IntKind.i64.wrap a - IntKind.i64.wrap b) - z.getD 0 0) = a - b - c % 2 := by
    rw [valL_bit0 hz]; unfold I32 at ha hb; simp only [IntKind.wrap_i64]; omega
  refine ⟨by rw [e]; unfold I32 at ha hb; omega, ?_⟩
  exact fin_k tt_ok (rs := rs_r02_Sub) rfl rfl hK [] (t2b (by rw [e]; rfl) (by rw [e]; rfl)) rfl rfl rfl rfl rfl
theorem RXdble_c (v : Int) : Con Tryz.prog f_r02_Xdble [.s (.int .i32 v)] [] (.ret (.tup [.s (.int .i32 v), .s (.int .i32 (lgSign v))]) []) := by
  intro K hK
  refine enter fn_r02_Xdble rfl nt_r02_Xdble rfl rfl (fun φ w0 β0 F => ?_)
  refine c_run tt_ok (ct := []) trivial k_r02_Xdble [] 60 (by kernel_rfl) ?_
  refine ⟨fun h => ?_, fun h => ?_⟩
  · simp only [decide_eq_true_eq] at h
    exact fin_k tt_ok (rs := rs_r02_Xdble) rfl rfl hK [] (t2 rfl (by unfold lgSign; rw [if_pos h])) rfl rfl rfl rfl rfl
  · simp only [decide_eq_false_iff_not] at h
    exact fin_k tt_ok (rs := rs_r02_Xdble) rfl rfl hK [] (t2 rfl (by unfold lgSign; rw [if_neg h])) rfl rfl rfl rfl rfl
noncomputable abbrev eRXdble : Ent := .st (conS (P := Tryz.prog) (f := f_r02_Xdble) fun cargs σ0 => match cargs, σ0 with
  | [.s (.int .i32 v)], [] => some ⟨_, RXdble_c v⟩
  | _, _ => none)
noncomputable abbrev eXdble : Ent := .st (conS (P := Tryz.prog) (f := f_long_Xdble) fun cargs σ0 => match cargs, σ0 with
  | [.s (.int .i32 v)], [] => some ⟨_, Xdble_c v⟩
  | _, _ => none)
noncomputable abbrev ctRX : CT := [(f_r02_Xdble, eRXdble)]
theorem ctRX_ok : CTok Tryz.prog ctRX := ⟨con_ok cal_r02_Xdble _, trivial⟩
noncomputable abbrev ctLX : CT := [(f_long_Xdble, eXdble)]
theorem ctLX_ok : CTok Tryz.prog ctLX := ⟨con_ok cal_long_Xdble _, trivial⟩
theorem RCsngl_c (lo hi : Int) : Con Tryz.prog f_r02_Csngl [.s (.int .i32 lo), .s (.int .i32 hi)] [] (.ret (.tup [.s (.int .i32 lo), .s (.bool (hi != lgSign lo))]) []) := by
  intro K hK
  refine enter fn_r02_Csngl rfl nt_r02_Csngl rfl rfl (fun φ w0 β0 F => ?_)
  refine c_run tt_ok ctRX_ok k_r02_Csngl [] 60 (by kernel_rfl) ?_
  exact fin_k tt_ok (rs := rs_r02_Csngl) rfl rfl hK [] rfl rfl rfl rfl rfl rfl
theorem Csngl_c (lo hi : Int) (h : I32 lo) : Con Tryz.prog f_long_Csngl [.s (.int .i32 lo), .s (.int .i32 hi)] [] (.ret (.tup [.s (.int .i32 lo), .s (.bool (hi != lgSign lo))]) []) := by
  intro K hK
  refine enter fn_long_Csngl rfl nt_long_Csngl rfl rfl (fun φ w0 β0 F => ?_)
  refine c_run tt_ok ctLX_ok k_long_Csngl [] 60 (by kernel_rfl) ?_
  refine ⟨h, ?_⟩
  exact fin_k tt_ok (rs := rs_long_Csngl) rfl rfl hK [] rfl rfl rfl rfl rfl rfl

/-! Norm -/
noncomputable abbrev eLen64 : Ent := .st (conS (P := Tryz.prog) (f := f_math_bits_Len64) fun cargs σ0 => match cargs, σ0 with
  | [.s (.int .u64 z)], [] => some ⟨.ask (0 ≤ z ∧ z < 18446744073709551616) (.ret (.t (.s (.int .i64 (bitLen z.toNat : Int)))) []), fun K h => Len64_c z h.1.1 h.1.2 K h.2⟩
  | _, _ => none)
noncomputable abbrev eShl : Ent := .st (conS (P := Tryz.prog) (f := f_long_Shl) fun cargs σ0 => match cargs, σ0 with
  | [.s (.int .i32 a), .s (.int .i32 b), .s (.int .i32 n)], [] => some ⟨_, Shl_c a b n⟩
  | _, _ => none)
noncomputable abbrev ctL : CT := [(f_math_bits_Len64, eLen64)]
theorem ctL_ok : CTok Tryz.prog ctL := ⟨con_ok cal_math_bits_Len64 _, trivial⟩
noncomputable abbrev ctN : CT := [(f_long_double_value, in_long_double_value []), (f_math_bits_LeadingZeros64, in_math_bits_LeadingZeros64 ctL), (f_long_Shl, eShl)]
theorem ctN_ok : CTok Tryz.prog ctN := ⟨in_long_double_value_ok trivial, in_math_bits_LeadingZeros64_ok ctL_ok, con_ok cal_long_Shl _, trivial⟩

theorem bitLen_le {z : Int} (h0 : 0 ≤ z) (h1 : z < 18446744073709551616) : bitLen z.toNat ≤ 64 := by
  unfold bitLen; split
  · omega
  · have := Nat.log2_lt (n := z.toNat) (k := 64) (by omega)
    have e : (2 : Nat) ^ 64 = 18446744073709551616 := by decide
    omega
theorem Norm_c (hi lo : Int) : Con Tryz.prog f_long_Norm [.s (.int .i32 hi), .s (.int .i32 lo)] [] (.ret (.tup [.s (.int .i32 (lgNormH hi lo)), .s (.int .i32 (lgNorm hi lo)), .s (.int .i32 (lzN (Dv hi lo)))]) []) := by
  intro K hK
  refine enter fn_long_Norm rfl nt_long_Norm rfl rfl (fun φ w0 β0 F => ?_)
  refine c_run tt_ok ctN_ok k_long_Norm [] 60 (by kernel_rfl) ?_
  have eh : ∀ x : Int, IntKind.u32.wrap x = Uw x := fun x => IntKind.wrap_u32 x
  have hz : ((IntKind.u32.wrap hi == 0) && ((IntKind.u32.wrap lo == 0) && true)) = decide (Dv hi lo = 0) := by
    rw [eh, eh]
    have h1 := Uw_lo hi
    have h2 := Uw_lo lo
    by_cases a : Uw hi = 0
    · by_cases b : Uw lo = 0
      · simp [a, b, Dv]
      · have : ¬ Dv hi lo = 0 := by unfold Dv; omega
        simp [a, b, this]
    · have : ¬ Dv hi lo = 0 := by unfold Dv; omega
      simp [a, this]
  refine ⟨fun h => ?_, fun h => ?_⟩
  · rw [hz] at h
    have h' : Dv hi lo = 0 := by simpa using h
    refine fin_k tt_ok (rs := rs_long_Norm) rfl rfl hK [] (t3 ?_ ?_ ?_) rfl rfl rfl rfl rfl
    · unfold lgNormH; rw [if_pos h']
    · unfold lgNorm; rw [if_pos h']
    · unfold lzN; rw [if_pos h']
  · rw [hz] at h
    have h' : ¬ Dv hi lo = 0 := by simpa using h
    have edv : bits .or .u64 (IntKind.u64.wrap (IntKind.u64.wrap (IntKind.u32.wrap hi) * 2 ^ min 32 IntKind.u64.bits)) (IntKind.u64.wrap (IntKind.u32.wrap lo)) = Dv hi lo := dv_prog hi lo
    refine ⟨by rw [edv]; exact ⟨Dv_lo _ _, Dv_hi _ _⟩, ?_⟩
    have hle := bitLen_le (Dv_lo hi lo) (Dv_hi hi lo)
    have elz : IntKind.i32.wrap (IntKind.i64.wrap (64 - ((bitLen (Dv hi lo).toNat : Nat) : Int))) = lzN (Dv hi lo) := by
      rw [lzN_len _ (Dv_lo _ _)]; simp only [IntKind.wrap_i64, IntKind.wrap_i32]; omega
    refine fin_k tt_ok (rs := rs_long_Norm) rfl rfl hK [] (t3 ?_ ?_ ?_) rfl rfl rfl rfl rfl
    · rw [edv, elz]; unfold lgNormH; rw [if_neg h']
    · rw [edv, elz]; unfold lgNorm; rw [if_neg h']
    · rw [edv, elz]
end Go.Proofs.L2

namespace Go.Proofs.L2
open Go Go.Sx
set_option maxRecDepth 10000

noncomputable abbrev eRShl : Ent := .st (conS (P := Tryz.prog) (f := f_r02_Shl) fun cargs σ0 => match cargs, σ0 with
  | [.s (.int .i32 a), .s (.int .i32 b), .s (.int .i32 n)], [] => some ⟨.ask (I32 a ∧ I32 b ∧ I32 n) (.ret (.tup [.s (.int .i32 (lgShlH a b n)), .s (.int .i32 (lgShl a b n))]) []), fun K h => RShl_c a b n h.1.1 h.1.2.1 h.1.2.2 K h.2⟩
  | _, _ => none)
noncomputable abbrev ctRN : CT := [(f_r02_Shl, eRShl)]
theorem ctRN_ok : CTok Tryz.prog ctRN := ⟨con_ok cal_r02_Shl _, trivial⟩

theorem shlV1 {z : Int} (h0 : 0 ≤ z) (h1 : z < 9223372036854775808) : shlV z 1 = z * 2 := by
  unfold shlV
  have e : (Uw 1).toNat = 1 := by decide
  rw [e, Int.pow_one]; omega
theorem norm_end {z : Int} {n : Nat} {h l : Int} (h0 : 0 ≤ z) (h1 : z < 18446744073709551616) (hn : n ≤ 64) (hv : Dv h l = z * 2 ^ n) (hs : z = 0 → n = 64) (hz : z ≠ 0 → 9223372036854775808 ≤ Dv h l) :
    lzN z = (n : Int) ∧ (z ≠ 0 → shlV z (n : Int) = Dv h l) := by
  have hlt := Dv_hi h l
  by_cases hz0 : z = 0
  · refine ⟨?_, fun h => absurd hz0 h⟩
    rw [hs hz0]; unfold lzN; rw [if_pos hz0]; rfl
  · have h63 := hz hz0
    have hp := pow2_pos n
    have hn64 : n < 64 := by
      rcases Nat.lt_or_ge n 64 with h | h
      · exact h
      · have : n = 64 := by omega
        subst this
        rw [e64] at hv; omega
    have hb : bitLen z.toNat = 64 - n := by
      have e : 64 - n = (63 - n) + 1 := by omega
      rw [e]
      have p1 : (2 : Int) ^ 63 = 2 ^ n * 2 ^ (63 - n) := pow_split (by omega)
      have p2 : (2 : Int) ^ 64 = 2 ^ n * 2 ^ (63 - n + 1) := by rw [← Int.pow_add]; congr 1; omega
      have e63 : (2 : Int) ^ 63 = 9223372036854775808 := by decide
      rw [e63] at p1
      rw [e64] at p2
      rw [hv] at h63 hlt
      have q1 : (2 : Int) ^ (63 - n) ≤ z := by
        rw [p1, Int.mul_comm z] at h63
        exact Int.le_of_mul_le_mul_left h63 hp
      have q2 : z < (2 : Int) ^ (63 - n + 1) := by
        rw [p2, Int.mul_comm z] at hlt
        exact Int.lt_of_mul_lt_mul_left hlt (by omega)
      have cst : ∀ k : Nat, ((2 ^ k : Nat) : Int) = (2 : Int) ^ k := fun k => by simp
      refine bitLen_of ?_ ?_
      · have := cst (63 - n); omega
      · have := cst (63 - n + 1); omega
    refine ⟨by rw [lzN_len z h0, hb]; omega, fun _ => ?_⟩
    unfold shlV
    have e : (Uw (n : Int)).toNat = n := by unfold Uw; omega
    rw [e, ← hv]; have := Dv_lo h l; omega

theorem RNorm_c (hi lo : Int) (h1 : I32 hi) (h2 : I32 lo) : Con Tryz.prog f_r02_Norm [.s (.int .i32 hi), .s (.int .i32 lo)] [] (.ret (.tup [.s (.int .i32 (lgNormH hi lo)), .s (.int .i32 (lgNorm hi lo)), .s (.int .i32 (lzN (Dv hi lo)))]) []) := by
  intro K hK
  refine enter fn_r02_Norm rfl nt_r02_Norm rfl rfl (fun φ w0 β0 F => ?_)
  refine c_run tt_ok ctRN_ok k_r02_Norm [] 60 (by kernel_rfl) ?_
  show WpC _ _ _ _ _
  refine c_loop (α := Int × Int × Nat) (fun p => I32 p.1 ∧ I32 p.2.1 ∧ p.2.2 ≤ 64 ∧ Dv p.1 p.2.1 = Dv hi lo * 2 ^ p.2.2) (fun p => 64 - p.2.2)
    (fun p => [(0, .t (.s (.int .i32 p.1)), none), (1, .t (.s (.int .i32 p.2.1)), none), (7, .t (.s (.int .i32 (p.2.2 : Int))), none)]) (fun _ => []) (hi, lo, 0) ⟨h1, h2, by simp, by simp⟩ ?_ ?_
  · exact into [] ⟨⟨_, rfl, rfl⟩, ⟨_, rfl, rfl⟩, ⟨_, rfl, rfl⟩, trivial⟩ ⟨_, rfl, rfl⟩ rfl rfl rfl rfl
  · rintro ⟨h, l, n⟩ ⟨hh, hl, hn, hv⟩
    simp only at hh hl hn hv
    dsimp only
    have hcond : (bif decide ((n : Int) < 64) then decide (h ≥ 0) else false) = decide (n < 64 ∧ 0 ≤ h) := by
      by_cases a : n < 64
      · rw [decide_eq_true (show (n : Int) < 64 by omega)]; simp [a]
      · rw [decide_eq_false (show ¬ (n : Int) < 64 by omega)]; simp [a]
    refine c_run' tt_ok ctRN_ok k_r02_Norm [] 60 (by kernel_rfl) (by kernel_rfl) ?_
    refine ⟨fun h3 => ?_, fun h3 => ?_⟩
    · rw [hcond] at h3
      simp only [decide_eq_true_eq] at h3
      refine ⟨⟨hh, hl, by decide, by decide⟩, ?_⟩
      have hlt : Dv h l < 9223372036854775808 := by unfold Dv Uw I32 at *; omega
      have hs := shlV1 (Dv_lo h l) hlt
      refine e_again (lgShlH h l 1, lgShl h l 1, n + 1) ⟨Wd_i32 _, Wd_i32 _, show n + 1 ≤ 64 by omega, ?_⟩ (show 64 - (n + 1) < 64 - n by omega)
        (into [] ⟨⟨_, rfl, rfl⟩, ⟨_, rfl, rfl⟩, ⟨_, rfl, fvi (by show IntKind.i32.wrap ((n : Int) + 1) = ((n + 1 : Nat) : Int); rw [IntKind.wrap_i32]; omega)⟩, trivial⟩ ⟨_, rfl, rfl⟩ rfl rfl rfl rfl)
      show Dv (lgShlH h l 1) (lgShl h l 1) = _
      unfold lgShlH lgShl
      rw [hs, Dv_split _ (by have := Dv_lo h l; omega) (by omega), hv, Int.pow_succ, Int.mul_assoc]
    · rw [hcond] at h3
      simp only [decide_eq_false_iff_not] at h3
      have hz0 := Dv_lo hi lo
      have hz1 := Dv_hi hi lo
      have hend := norm_end (z := Dv hi lo) hz0 hz1 hn hv (fun h0 => by
          rw [h0, Int.zero_mul] at hv
          have : 0 ≤ h := by unfold Dv Uw I32 at *; omega
          omega) (fun hne => by
          by_cases hn64 : n = 64
          · subst hn64
            rw [e64] at hv
            have := Dv_hi h l
            omega
          · have : h < 0 := by omega
            unfold Dv Uw I32 at *; omega)
      refine fin_k tt_ok (rs := rs_r02_Norm) rfl rfl hK [] (t3 ?_ ?_ hend.1.symm) rfl rfl rfl rfl rfl
      · unfold lgNormH
        split
        · rename_i h0
          rw [h0, Int.zero_mul] at hv
          unfold Dv Uw I32 at *; omega
        · rename_i h0
          unfold lgShlH
          rw [hend.1, hend.2 h0]
          unfold Dv Uw Wd I32 at *; omega
      · unfold lgNorm
        split
        · rename_i h0
          rw [h0, Int.zero_mul] at hv
          unfold Dv Uw I32 at *; omega
        · rename_i h0
          unfold lgShl
          rw [hend.1, hend.2 h0]
          unfold Dv Uw Wd I32 at *; omega
end Go.Proofs.L2
