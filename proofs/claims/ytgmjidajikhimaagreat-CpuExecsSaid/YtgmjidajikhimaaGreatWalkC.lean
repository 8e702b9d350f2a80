/- Chapter 01's functions: word.*, and the reference's (printed by gen28a.py). -/
import Derived.Test.YtgmjidajikhimaaGreatWalkB
import Derived.Test.YtgmjidajikhimaaGreatWalkA

namespace Go.Proofs
open Go Go.Sx
set_option maxRecDepth 10000
def wdO (t : Int) : Bool := Wd t != t
theorem mul_i62 {a b : Int} (ha : I32 a) (hb : I32 b) : -4611686018427387904 ≤ a * b ∧ a * b ≤ 4611686018427387904 := by
  unfold I32 at ha hb
  have h : (a * b).natAbs ≤ 2147483648 * 2147483648 := by
    rw [Int.natAbs_mul]
    exact Nat.mul_le_mul (by omega) (by omega)
  omega
theorem tdiv_fit {a b : Int} (ha : I32 a) (hb : I32 b) (h : a = -2147483648 → b ≠ -1) : IntKind.i32.wrap (a.tdiv b) = (bif false then 0 else a.tdiv b) := by
  have h1 : (a.tdiv b).natAbs ≤ a.natAbs := by rw [Int.natAbs_tdiv]; exact Nat.div_le_self _ _
  unfold I32 at ha hb
  have h2 : a.tdiv b ≠ 2147483648 := by
    intro e
    have h3 : a.natAbs = 2147483648 := by omega
    have h4 : a = -2147483648 := by omega
    have h5 : (a.tdiv b).natAbs = a.natAbs / b.natAbs := Int.natAbs_tdiv _ _
    rw [e, h3] at h5
    have h6 : b.natAbs = 1 := by
      have : (2147483648 : Int).natAbs = 2147483648 := rfl
      rw [this] at h5
      rcases Nat.lt_or_ge b.natAbs 2 with h7 | h7
      · rcases Nat.lt_or_ge b.natAbs 1 with h8 | h8
        · have : b.natAbs = 0 := by omega
          rw [this] at h5; simp at h5
        · omega
      · have : 2147483648 / b.natAbs ≤ 2147483648 / 2 := Nat.div_le_div_left h7 (by decide)
        omega
    have h7 : b = 1 := by have := h h4; omega
    subst h7; subst h4
    simp at e
  rw [IntKind.wrap_i32]
  show _ = a.tdiv b
  omega
theorem tmod_fit {a b : Int} (_ha : I32 a) (hb : I32 b) (hz : b ≠ 0) : IntKind.i32.wrap (a.tmod b) = (bif false then 0 else a.tmod b) := by
  have h1 : (a.tmod b).natAbs = a.natAbs % b.natAbs := Int.natAbs_tmod _ _
  have h2 : a.natAbs % b.natAbs < b.natAbs := Nat.mod_lt _ (by omega)
  unfold I32 at _ha hb
  rw [IntKind.wrap_i32]
  show _ = a.tmod b
  omega

theorem red_c (t : Int) (_h1 : -9223372036854775808 ≤ t) (_h2 : t ≤ 9223372036854775807) : Con Tryz.prog f_word_reduce_int64 [.s (.int .i64 t)] [] (.ret (.tup [.s (.int .i32 (Wd t)), .s (.bool (wdO t))]) []) := by
  intro K hK
  refine enter fn_word_reduce_int64 rfl nt_word_reduce_int64 rfl rfl (fun φ w0 β0 F => ?_)
  refine c_run tt_ok (ct := []) trivial k_word_reduce_int64 [] 60 (by kernel_rfl) ?_
  refine fin_k tt_ok (rs := rs_word_reduce_int64) rfl rfl hK [] (t2b ?_ ?_) rfl rfl rfl rfl rfl
  · rw [IntKind.wrap_i32]; rfl
  · have e : IntKind.i64.wrap (IntKind.i32.wrap t) = Wd t := by rw [IntKind.wrap_i32, IntKind.wrap_i64]; unfold Wd; omega
    rw [e]; rfl

def spred : List TV → Option (Prop × FV)
  | [.s (.int .i64 t)] => some (-9223372036854775808 ≤ t ∧ t ≤ 9223372036854775807, .tup [.s (.int .i32 (Wd t)), .s (.bool (wdO t))])
  | _ => none
theorem cered : CEok Tryz.prog f_word_reduce_int64 spred := ⟨cal_word_reduce_int64, fun args p v h hp => by
  unfold spred at h; split at h
  · cases h; exact (red_c _ hp.1 hp.2).pure
  · cases h⟩

noncomputable abbrev ctRd : CT := [(f_word_reduce_int64, .pure spred)]
theorem ctRd_ok : CTok Tryz.prog ctRd := ⟨cered, trivial⟩

theorem wAdd_c (a b : Int) (ha : I32 a) (hb : I32 b) : Con Tryz.prog f_word_Add [.s (.int .i32 a), .s (.int .i32 b)] [] (.ret (.tup [.s (.int .i32 (Wd (a + b))), .s (.bool (wdO (a + b)))]) []) := by
  intro K hK
  refine enter fn_word_Add rfl nt_word_Add rfl rfl (fun φ w0 β0 F => ?_)
  refine c_run tt_ok ctRd_ok k_word_Add [] 60 (by kernel_rfl) ?_
  unfold I32 at ha hb
  have e : IntKind.i64.wrap (IntKind.i64.wrap a + IntKind.i64.wrap b) = a + b := by simp only [IntKind.wrap_i64]; omega
  refine ⟨by rw [e]; omega, ?_⟩
  refine fin_k tt_ok (rs := rs_word_Add) rfl rfl hK [] (t2b ?_ ?_) rfl rfl rfl rfl rfl
  · rw [e]
  · rw [e]

def spwAdd : List TV → Option (Prop × FV)
  | [.s (.int .i32 a), .s (.int .i32 b)] => some (I32 a ∧ I32 b, .tup [.s (.int .i32 (Wd (a + b))), .s (.bool (wdO (a + b)))])
  | _ => none
theorem cewAdd : CEok Tryz.prog f_word_Add spwAdd := ⟨cal_word_Add, fun args p v h hp => by
  unfold spwAdd at h; split at h
  · cases h; exact (wAdd_c _ _ hp.1 hp.2).pure
  · cases h⟩

theorem wSub_c (a b : Int) (ha : I32 a) (hb : I32 b) : Con Tryz.prog f_word_Sub [.s (.int .i32 a), .s (.int .i32 b)] [] (.ret (.tup [.s (.int .i32 (Wd (a - b))), .s (.bool (wdO (a - b)))]) []) := by
  intro K hK
  refine enter fn_word_Sub rfl nt_word_Sub rfl rfl (fun φ w0 β0 F => ?_)
  refine c_run tt_ok ctRd_ok k_word_Sub [] 60 (by kernel_rfl) ?_
  unfold I32 at ha hb
  have e : IntKind.i64.wrap (IntKind.i64.wrap a - IntKind.i64.wrap b) = a - b := by simp only [IntKind.wrap_i64]; omega
  refine ⟨by rw [e]; omega, ?_⟩
  refine fin_k tt_ok (rs := rs_word_Sub) rfl rfl hK [] (t2b ?_ ?_) rfl rfl rfl rfl rfl
  · rw [e]
  · rw [e]

def spwSub : List TV → Option (Prop × FV)
  | [.s (.int .i32 a), .s (.int .i32 b)] => some (I32 a ∧ I32 b, .tup [.s (.int .i32 (Wd (a - b))), .s (.bool (wdO (a - b)))])
  | _ => none
theorem cewSub : CEok Tryz.prog f_word_Sub spwSub := ⟨cal_word_Sub, fun args p v h hp => by
  unfold spwSub at h; split at h
  · cases h; exact (wSub_c _ _ hp.1 hp.2).pure
  · cases h⟩

theorem wMul_c (a b : Int) (ha : I32 a) (hb : I32 b) : Con Tryz.prog f_word_Mul [.s (.int .i32 a), .s (.int .i32 b)] [] (.ret (.tup [.s (.int .i32 (Wd (a * b))), .s (.bool (wdO (a * b)))]) []) := by
  intro K hK
  refine enter fn_word_Mul rfl nt_word_Mul rfl rfl (fun φ w0 β0 F => ?_)
  refine c_run tt_ok ctRd_ok k_word_Mul [] 60 (by kernel_rfl) ?_
  have hm := mul_i62 ha hb
  unfold I32 at ha hb
  have e : IntKind.i64.wrap (IntKind.i64.wrap a * IntKind.i64.wrap b) = a * b := by
    rw [wrap64 (n := a) (by omega) (by omega), wrap64 (n := b) (by omega) (by omega)]
    generalize a * b = p at *
    rw [wrap64 (by omega) (by omega)]
  refine ⟨by rw [e]; omega, ?_⟩
  refine fin_k tt_ok (rs := rs_word_Mul) rfl rfl hK [] (t2b ?_ ?_) rfl rfl rfl rfl rfl
  · rw [e]
  · rw [e]

def spwMul : List TV → Option (Prop × FV)
  | [.s (.int .i32 a), .s (.int .i32 b)] => some (I32 a ∧ I32 b, .tup [.s (.int .i32 (Wd (a * b))), .s (.bool (wdO (a * b)))])
  | _ => none
theorem cewMul : CEok Tryz.prog f_word_Mul spwMul := ⟨cal_word_Mul, fun args p v h hp => by
  unfold spwMul at h; split at h
  · cases h; exact (wMul_c _ _ hp.1 hp.2).pure
  · cases h⟩

theorem wSum_c (a b : Int)  : Con Tryz.prog f_word_Sum [.s (.int .i32 a), .s (.int .i32 b)] [] (.ret (.t (.s (.int .i32 (Wd (a + b))))) []) := by
  intro K hK
  refine enter fn_word_Sum rfl nt_word_Sum rfl rfl (fun φ w0 β0 F => ?_)
  refine c_run tt_ok (ct := []) trivial k_word_Sum [] 60 (by kernel_rfl) ?_
  refine fin_k tt_ok (rs := rs_word_Sum) rfl rfl hK [] (t1 ?_) rfl rfl rfl rfl rfl
  rw [wrapW]

def spwSum : List TV → Option (Prop × FV)
  | [.s (.int .i32 a), .s (.int .i32 b)] => some (True, .t (.s (.int .i32 (Wd (a + b)))))
  | _ => none
theorem cewSum : CEok Tryz.prog f_word_Sum spwSum := ⟨cal_word_Sum, fun args p v h hp => by
  unfold spwSum at h; split at h
  · cases h; exact (wSum_c _ _ ).pure
  · cases h⟩

theorem wDiff_c (a b : Int)  : Con Tryz.prog f_word_Diff [.s (.int .i32 a), .s (.int .i32 b)] [] (.ret (.t (.s (.int .i32 (Wd (a - b))))) []) := by
  intro K hK
  refine enter fn_word_Diff rfl nt_word_Diff rfl rfl (fun φ w0 β0 F => ?_)
  refine c_run tt_ok (ct := []) trivial k_word_Diff [] 60 (by kernel_rfl) ?_
  refine fin_k tt_ok (rs := rs_word_Diff) rfl rfl hK [] (t1 ?_) rfl rfl rfl rfl rfl
  rw [wrapW]

def spwDiff : List TV → Option (Prop × FV)
  | [.s (.int .i32 a), .s (.int .i32 b)] => some (True, .t (.s (.int .i32 (Wd (a - b)))))
  | _ => none
theorem cewDiff : CEok Tryz.prog f_word_Diff spwDiff := ⟨cal_word_Diff, fun args p v h hp => by
  unfold spwDiff at h; split at h
  · cases h; exact (wDiff_c _ _ ).pure
  · cases h⟩

theorem wProd_c (a b : Int)  : Con Tryz.prog f_word_Prod [.s (.int .i32 a), .s (.int .i32 b)] [] (.ret (.t (.s (.int .i32 (Wd (a * b))))) []) := by
  intro K hK
  refine enter fn_word_Prod rfl nt_word_Prod rfl rfl (fun φ w0 β0 F => ?_)
  refine c_run tt_ok (ct := []) trivial k_word_Prod [] 60 (by kernel_rfl) ?_
  refine fin_k tt_ok (rs := rs_word_Prod) rfl rfl hK [] (t1 ?_) rfl rfl rfl rfl rfl
  rw [wrapW]

def spwProd : List TV → Option (Prop × FV)
  | [.s (.int .i32 a), .s (.int .i32 b)] => some (True, .t (.s (.int .i32 (Wd (a * b)))))
  | _ => none
theorem cewProd : CEok Tryz.prog f_word_Prod spwProd := ⟨cal_word_Prod, fun args p v h hp => by
  unfold spwProd at h; split at h
  · cases h; exact (wProd_c _ _ ).pure
  · cases h⟩

theorem wCsub0_c (a b : Int)  : Con Tryz.prog f_word_Csub0 [.s (.int .i32 a), .s (.int .i32 b)] [] (.ret (.tup [.s (.int .i32 a), .s (.bool (decide (Uw a ≥ Uw b)))]) []) := by
  intro K hK
  refine enter fn_word_Csub0 rfl nt_word_Csub0 rfl rfl (fun φ w0 β0 F => ?_)
  refine c_run tt_ok (ct := []) trivial k_word_Csub0 [] 60 (by kernel_rfl) ?_
  refine fin_k tt_ok (rs := rs_word_Csub0) rfl rfl hK [] (t2b ?_ ?_) rfl rfl rfl rfl rfl
  · rfl
  · simp only [IntKind.wrap_u32]; rfl

def spwCsub0 : List TV → Option (Prop × FV)
  | [.s (.int .i32 a), .s (.int .i32 b)] => some (True, .tup [.s (.int .i32 a), .s (.bool (decide (Uw a ≥ Uw b)))])
  | _ => none
theorem cewCsub0 : CEok Tryz.prog f_word_Csub0 spwCsub0 := ⟨cal_word_Csub0, fun args p v h hp => by
  unfold spwCsub0 at h; split at h
  · cases h; exact (wCsub0_c _ _ ).pure
  · cases h⟩

theorem wCcnt1_c (a b : Int)  : Con Tryz.prog f_word_Ccnt1 [.s (.int .i32 a), .s (.int .i32 b)] [] (.ret (.tup [.s (.int .i32 a), .s (.bool (bif a == 0 then true else decide (Uw a > Uw b)))]) []) := by
  intro K hK
  refine enter fn_word_Ccnt1 rfl nt_word_Ccnt1 rfl rfl (fun φ w0 β0 F => ?_)
  refine c_run tt_ok (ct := []) trivial k_word_Ccnt1 [] 60 (by kernel_rfl) ?_
  refine fin_k tt_ok (rs := rs_word_Ccnt1) rfl rfl hK [] (t2b ?_ ?_) rfl rfl rfl rfl rfl
  · rfl
  · simp only [IntKind.wrap_u32]; rfl

def spwCcnt1 : List TV → Option (Prop × FV)
  | [.s (.int .i32 a), .s (.int .i32 b)] => some (True, .tup [.s (.int .i32 a), .s (.bool (bif a == 0 then true else decide (Uw a > Uw b)))])
  | _ => none
theorem cewCcnt1 : CEok Tryz.prog f_word_Ccnt1 spwCcnt1 := ⟨cal_word_Ccnt1, fun args p v h hp => by
  unfold spwCcnt1 at h; split at h
  · cases h; exact (wCcnt1_c _ _ ).pure
  · cases h⟩

theorem wCword_c (a b : Int)  : Con Tryz.prog f_word_Cword [.s (.int .i32 a), .s (.int .i32 b)] [] (.ret (.tup [.s (.int .i32 a), .s (.bool (bif decide (a ≥ b) then true else decide (a < Wd (-b))))]) []) := by
  intro K hK
  refine enter fn_word_Cword rfl nt_word_Cword rfl rfl (fun φ w0 β0 F => ?_)
  refine c_run tt_ok (ct := []) trivial k_word_Cword [] 60 (by kernel_rfl) ?_
  refine fin_k tt_ok (rs := rs_word_Cword) rfl rfl hK [] (t2b ?_ ?_) rfl rfl rfl rfl rfl
  · rfl
  · rw [wrapW, Int.zero_sub]

def spwCword : List TV → Option (Prop × FV)
  | [.s (.int .i32 a), .s (.int .i32 b)] => some (True, .tup [.s (.int .i32 a), .s (.bool (bif decide (a ≥ b) then true else decide (a < Wd (-b))))])
  | _ => none
theorem cewCword : CEok Tryz.prog f_word_Cword spwCword := ⟨cal_word_Cword, fun args p v h hp => by
  unfold spwCword at h; split at h
  · cases h; exact (wCword_c _ _ ).pure
  · cases h⟩

theorem wXword_c (a b : Int)  : Con Tryz.prog f_word_Xword [.s (.int .i32 a), .s (.int .i32 b)] [] (.ret (.t (.s (.int .i32 (bif decide (Uw a < Uw b) then a else Wd (a - 2 * b))))) []) := by
  intro K hK
  refine enter fn_word_Xword rfl nt_word_Xword rfl rfl (fun φ w0 β0 F => ?_)
  refine c_run tt_ok (ct := []) trivial k_word_Xword [] 60 (by kernel_rfl) ?_
  have eu : ∀ x, IntKind.u32.wrap x = Uw x := fun x => by rw [IntKind.wrap_u32]; rfl
  refine ⟨fun h => ?_, fun h => ?_⟩
  · rw [eu, eu] at h
    rw [h] at hK
    exact fin_k tt_ok (rs := rs_word_Xword) rfl rfl hK [] rfl rfl rfl rfl rfl rfl
  · rw [eu, eu] at h
    rw [h] at hK
    refine fin_k tt_ok (rs := rs_word_Xword) rfl rfl hK [] (t1 ?_) rfl rfl rfl rfl rfl
    simp only [IntKind.wrap_i32, Wd, cond_false]; omega

def spwXword : List TV → Option (Prop × FV)
  | [.s (.int .i32 a), .s (.int .i32 b)] => some (True, .t (.s (.int .i32 (bif decide (Uw a < Uw b) then a else Wd (a - 2 * b)))))
  | _ => none
theorem cewXword : CEok Tryz.prog f_word_Xword spwXword := ⟨cal_word_Xword, fun args p v h hp => by
  unfold spwXword at h; split at h
  · cases h; exact (wXword_c _ _ ).pure
  · cases h⟩

theorem wDiv_c (a b : Int) (ha : I32 a) (hb : I32 b) : Con Tryz.prog f_word_Div [.s (.int .i32 a), .s (.int .i32 b)] [] (.ret (.tup [.s (.int .i32 (bif (bif b == 0 then true else bif a == -2147483648 then b == -1 else false) then 0 else a.tdiv b)), .s (.bool (bif b == 0 then true else bif a == -2147483648 then b == -1 else false))]) []) := by
  intro K hK
  refine enter fn_word_Div rfl nt_word_Div rfl rfl (fun φ w0 β0 F => ?_)
  refine c_run tt_ok (ct := []) trivial k_word_Div [] 60 (by kernel_rfl) ?_
  refine ⟨fun h => ?_, fun h => ?_⟩
  · rw [show (bif b == 0 then true else bif a == -2147483648 then b == -1 else false) = true from h] at hK
    exact fin_k tt_ok (rs := rs_word_Div) rfl rfl hK [] rfl rfl rfl rfl rfl rfl
  · rw [show (bif b == 0 then true else bif a == -2147483648 then b == -1 else false) = false from h] at hK
    have hz : b ≠ 0 := by intro e; subst e; simp at h
    refine ⟨hz, ?_⟩
    refine fin_k tt_ok (rs := rs_word_Div) rfl rfl hK [] (t2b ?_ rfl) rfl rfl rfl rfl rfl
    exact tdiv_fit ha hb (by
      intro e1 e2
      subst e1; subst e2
      simp at h)

def spwDiv : List TV → Option (Prop × FV)
  | [.s (.int .i32 a), .s (.int .i32 b)] => some (I32 a ∧ I32 b, .tup [.s (.int .i32 (bif (bif b == 0 then true else bif a == -2147483648 then b == -1 else false) then 0 else a.tdiv b)), .s (.bool (bif b == 0 then true else bif a == -2147483648 then b == -1 else false))])
  | _ => none
theorem cewDiv : CEok Tryz.prog f_word_Div spwDiv := ⟨cal_word_Div, fun args p v h hp => by
  unfold spwDiv at h; split at h
  · cases h; exact (wDiv_c _ _ hp.1 hp.2).pure
  · cases h⟩

theorem wRem_c (a b : Int) (_ha : I32 a) (hb : I32 b) : Con Tryz.prog f_word_Rem [.s (.int .i32 a), .s (.int .i32 b)] [] (.ret (.tup [.s (.int .i32 (bif b == 0 then 0 else a.tmod b)), .s (.bool (b == 0))]) []) := by
  intro K hK
  refine enter fn_word_Rem rfl nt_word_Rem rfl rfl (fun φ w0 β0 F => ?_)
  refine c_run tt_ok (ct := []) trivial k_word_Rem [] 60 (by kernel_rfl) ?_
  refine ⟨fun h => ?_, fun h => ⟨fun h2 => ?_, fun h2 => ?_⟩⟩
  · rw [show (b == 0) = true from h] at hK
    exact fin_k tt_ok (rs := rs_word_Rem) rfl rfl hK [] rfl rfl rfl rfl rfl rfl
  · rw [show (b == 0) = false from h] at hK
    have hb1 : b = -1 := by simpa using h2
    subst hb1
    refine fin_k tt_ok (rs := rs_word_Rem) rfl rfl hK [] (t2b ?_ rfl) rfl rfl rfl rfl rfl
    simp [Int.tmod_neg, Int.tmod_one]
  · rw [show (b == 0) = false from h] at hK
    have hz : b ≠ 0 := by simpa using h
    refine ⟨hz, ?_⟩
    exact fin_k tt_ok (rs := rs_word_Rem) rfl rfl hK [] rfl rfl rfl rfl rfl rfl

def spwRem : List TV → Option (Prop × FV)
  | [.s (.int .i32 a), .s (.int .i32 b)] => some (I32 a ∧ I32 b, .tup [.s (.int .i32 (bif b == 0 then 0 else a.tmod b)), .s (.bool (b == 0))])
  | _ => none
theorem cewRem : CEok Tryz.prog f_word_Rem spwRem := ⟨cal_word_Rem, fun args p v h hp => by
  unfold spwRem at h; split at h
  · cases h; exact (wRem_c _ _ hp.1 hp.2).pure
  · cases h⟩

theorem wShr_c (a b : Int)  : Con Tryz.prog f_word_Shr [.s (.int .i32 a), .s (.int .i32 b)] [] (.ret (.t (.s (.int .i32 (Wd (Uw a / 2 ^ min (Uw b).toNat 32))))) []) := by
  intro K hK
  refine enter fn_word_Shr rfl nt_word_Shr rfl rfl (fun φ w0 β0 F => ?_)
  refine c_run tt_ok (ct := []) trivial k_word_Shr [] 60 (by kernel_rfl) ?_
  have eu : ∀ x, IntKind.u32.wrap x = Uw x := fun x => by rw [IntKind.wrap_u32]; rfl
  refine ⟨by show 0 ≤ IntKind.u32.wrap b; rw [eu]; exact Uw_lo b, ?_⟩
  refine fin_k tt_ok (rs := rs_word_Shr) rfl rfl hK [] (t1 ?_) rfl rfl rfl rfl rfl
  rw [eu, eu, wrapW, Int.fdiv_eq_ediv_of_nonneg _ (Int.le_of_lt (Int.pow_pos (by decide)))]; rfl

def spwShr : List TV → Option (Prop × FV)
  | [.s (.int .i32 a), .s (.int .i32 b)] => some (True, .t (.s (.int .i32 (Wd (Uw a / 2 ^ min (Uw b).toNat 32)))))
  | _ => none
theorem cewShr : CEok Tryz.prog f_word_Shr spwShr := ⟨cal_word_Shr, fun args p v h hp => by
  unfold spwShr at h; split at h
  · cases h; exact (wShr_c _ _ ).pure
  · cases h⟩

theorem redU_c (t : Int)  : Con Tryz.prog f_word_reduce_uint64 [.s (.int .u64 t)] [] (.ret (.tup [.s (.int .i32 (Wd t)), .s (.bool (IntKind.u64.wrap (Wd t) != t))]) []) := by
  intro K hK
  refine enter fn_word_reduce_uint64 rfl nt_word_reduce_uint64 rfl rfl (fun φ w0 β0 F => ?_)
  refine c_run tt_ok (ct := []) trivial k_word_reduce_uint64 [] 60 (by kernel_rfl) ?_
  refine fin_k tt_ok (rs := rs_word_reduce_uint64) rfl rfl hK [] (t2b ?_ ?_) rfl rfl rfl rfl rfl
  · rw [wrapW]
  · rw [wrapW]

def spredU : List TV → Option (Prop × FV)
  | [.s (.int .u64 t)] => some (True, .tup [.s (.int .i32 (Wd t)), .s (.bool (IntKind.u64.wrap (Wd t) != t))])
  | _ => none
theorem ceredU : CEok Tryz.prog f_word_reduce_uint64 spredU := ⟨cal_word_reduce_uint64, fun args p v h hp => by
  unfold spredU at h; split at h
  · cases h; exact (redU_c _ ).pure
  · cases h⟩

noncomputable abbrev ctRu : CT := [(f_word_reduce_uint64, .pure spredU)]
theorem ctRu_ok : CTok Tryz.prog ctRu := ⟨ceredU, trivial⟩
def shlS (a b : Int) : Int := bif decide (Uw b > 31) then 0 else Wd (Uw a * 2 ^ (Uw b).toNat)
theorem Wd_64 (x : Int) : Wd (x % 18446744073709551616) = Wd x := by unfold Wd; omega

theorem wShl_c (a b : Int)  : Con Tryz.prog f_word_Shl [.s (.int .i32 a), .s (.int .i32 b)] [] (.ret (.t (.s (.int .i32 (shlS a b)))) []) := by
  intro K hK
  refine enter fn_word_Shl rfl nt_word_Shl rfl rfl (fun φ w0 β0 F => ?_)
  refine c_run tt_ok ctRu_ok k_word_Shl [] 60 (by kernel_rfl) ?_
  have eu : ∀ x, IntKind.u32.wrap x = Uw x := fun x => by rw [IntKind.wrap_u32]; rfl
  have e64 : ∀ x, IntKind.u64.wrap (Uw x) = Uw x := fun x => by rw [IntKind.wrap_u64]; unfold Uw; omega
  refine ⟨fun h => ?_, fun h => ⟨?_, trivial, ?_⟩⟩
  · rw [eu] at h
    rw [show shlS a b = 0 by unfold shlS; rw [h]; rfl] at hK
    exact fin_k tt_ok (rs := rs_word_Shl) rfl rfl hK [] rfl rfl rfl rfl rfl rfl
  · show 0 ≤ IntKind.u32.wrap b; rw [eu]; exact Uw_lo b
  · rw [eu] at h
    refine fin_k tt_ok (rs := rs_word_Shl) rfl rfl hK [] (t1 ?_) rfl rfl rfl rfl rfl
    have h31 := of_decide_eq_false h
    have h0 := Uw_lo b
    rw [eu, eu, e64]
    unfold shlS
    rw [h, show min (Uw b).toNat IntKind.u64.bits = (Uw b).toNat from Nat.min_eq_left (by show (Uw b).toNat ≤ 64; omega), IntKind.wrap_u64]
    exact Wd_64 _

def spwShl : List TV → Option (Prop × FV)
  | [.s (.int .i32 a), .s (.int .i32 b)] => some (True, .t (.s (.int .i32 (shlS a b))))
  | _ => none
theorem cewShl : CEok Tryz.prog f_word_Shl spwShl := ⟨cal_word_Shl, fun args p v h hp => by
  unfold spwShl at h; split at h
  · cases h; exact (wShl_c _ _ ).pure
  · cases h⟩

end Go.Proofs

namespace Go.Proofs
open Go Go.Sx
set_option maxRecDepth 10000

theorem i64_lo (n : Int) : -9223372036854775808 ≤ IntKind.i64.wrap n := by rw [IntKind.wrap_i64]; omega
theorem i64_hi (n : Int) : IntKind.i64.wrap n ≤ 9223372036854775807 := by rw [IntKind.wrap_i64]; omega
theorem RWrap_c (t : Int) (h1 : -9223372036854775808 ≤ t) (h2 : t ≤ 9223372036854775807) : Con Tryz.prog f_r01_Wrap [.s (.int .i64 t)] [] (.ret (.t (.s (.int .i32 (Wd t)))) []) := by
  intro K hK
  refine enter fn_r01_Wrap rfl nt_r01_Wrap rfl rfl (fun φ w0 β0 F => ?_)
  refine c_run tt_ok (ct := []) trivial k_r01_Wrap [] 60 (by kernel_rfl) ?_
  have ht : t.tmod 4294967296 = t % 4294967296 ∨ (t < 0 ∧ t.tmod 4294967296 = -((-t) % 4294967296)) := by
    rcases Int.lt_or_le t 0 with h | h
    · right
      refine ⟨h, ?_⟩
      have : t = -(-t) := by omega
      rw [this, Int.neg_tmod, Int.tmod_eq_emod_of_nonneg (by omega), Int.neg_neg]
    · left; exact Int.tmod_eq_emod_of_nonneg h
  have hr : IntKind.i64.wrap (t.tmod 4294967296) = t.tmod 4294967296 := by rw [wrap64 (by omega) (by omega)]
  refine ⟨fun h => ⟨fun h3 => ?_, fun h3 => ?_⟩, fun h => ⟨fun h3 => ?_, fun h3 => ?_⟩⟩
  all_goals
    simp only [decide_eq_true_eq, decide_eq_false_iff_not] at h h3
    refine fin_k tt_ok (rs := rs_r01_Wrap) rfl rfl hK [] (t1 ?_) rfl rfl rfl rfl rfl
    unfold Wd
    simp only [hr, IntKind.wrap_i32, IntKind.wrap_i64] at *
    omega

def spRWrap : List TV → Option (Prop × FV)
  | [.s (.int .i64 t)] => some (-9223372036854775808 ≤ t ∧ t ≤ 9223372036854775807, .t (.s (.int .i32 (Wd t))))
  | _ => none
theorem ceRWrap : CEok Tryz.prog f_r01_Wrap spRWrap := ⟨cal_r01_Wrap, fun args p v h hp => by
  unfold spRWrap at h; split at h
  · cases h; exact (RWrap_c _ hp.1 hp.2).pure
  · cases h⟩

theorem RFits_c (t : Int)  : Con Tryz.prog f_r01_Fits [.s (.int .i64 t)] [] (.ret (.t (.s (.bool (!wdO t)))) []) := by
  intro K hK
  refine enter fn_r01_Fits rfl nt_r01_Fits rfl rfl (fun φ w0 β0 F => ?_)
  refine c_run tt_ok (ct := []) trivial k_r01_Fits [] 60 (by kernel_rfl) ?_
  refine fin_k tt_ok (rs := rs_r01_Fits) rfl rfl hK [] (t1b ?_) rfl rfl rfl rfl rfl
  unfold wdO Wd
  rw [Bool.eq_iff_iff]
  by_cases h1 : t ≥ -2147483648 <;> by_cases h2 : t < 2147483648 <;> simp [h1, h2] <;> omega

def spRFits : List TV → Option (Prop × FV)
  | [.s (.int .i64 t)] => some (True, .t (.s (.bool (!wdO t))))
  | _ => none
theorem ceRFits : CEok Tryz.prog f_r01_Fits spRFits := ⟨cal_r01_Fits, fun args p v h hp => by
  unfold spRFits at h; split at h
  · cases h; exact (RFits_c _ ).pure
  · cases h⟩

theorem RUns_c (v : Int) (h0 : I32 v) : Con Tryz.prog f_r01_Unsigned [.s (.int .i32 v)] [] (.ret (.t (.s (.int .i64 (Uw v)))) []) := by
  intro K hK
  refine enter fn_r01_Unsigned rfl nt_r01_Unsigned rfl rfl (fun φ w0 β0 F => ?_)
  refine c_run tt_ok (ct := []) trivial k_r01_Unsigned [] 60 (by kernel_rfl) ?_
  unfold I32 at h0
  refine ⟨fun h => ?_, fun h => ?_⟩
  · have h' := of_decide_eq_true h
    refine fin_k tt_ok (rs := rs_r01_Unsigned) rfl rfl hK [] (t1 ?_) rfl rfl rfl rfl rfl
    unfold Uw
    simp only [IntKind.wrap_i64]; omega
  · have h' := of_decide_eq_false h
    refine fin_k tt_ok (rs := rs_r01_Unsigned) rfl rfl hK [] (t1 ?_) rfl rfl rfl rfl rfl
    unfold Uw
    simp only [IntKind.wrap_i64]; omega

def spRUns : List TV → Option (Prop × FV)
  | [.s (.int .i32 v)] => some (I32 v, .t (.s (.int .i64 (Uw v))))
  | _ => none
theorem ceRUns : CEok Tryz.prog f_r01_Unsigned spRUns := ⟨cal_r01_Unsigned, fun args p v h hp => by
  unfold spRUns at h; split at h
  · cases h; exact (RUns_c _ hp).pure
  · cases h⟩

theorem Rsize_c (v : Int) (h0 : I32 v) : Con Tryz.prog f_r01_size [.s (.int .i32 v)] [] (.ret (.t (.s (.int .i64 (v.natAbs : Int)))) []) := by
  intro K hK
  refine enter fn_r01_size rfl nt_r01_size rfl rfl (fun φ w0 β0 F => ?_)
  refine c_run tt_ok (ct := []) trivial k_r01_size [] 60 (by kernel_rfl) ?_
  unfold I32 at h0
  refine ⟨fun h => ?_, fun h => ?_⟩
  · have h' := of_decide_eq_true h
    refine fin_k tt_ok (rs := rs_r01_size) rfl rfl hK [] (t1 ?_) rfl rfl rfl rfl rfl
    simp only [IntKind.wrap_i64]; omega
  · have h' := of_decide_eq_false h
    refine fin_k tt_ok (rs := rs_r01_size) rfl rfl hK [] (t1 ?_) rfl rfl rfl rfl rfl
    simp only [IntKind.wrap_i64]; omega

def spRsize : List TV → Option (Prop × FV)
  | [.s (.int .i32 v)] => some (I32 v, .t (.s (.int .i64 (v.natAbs : Int))))
  | _ => none
theorem ceRsize : CEok Tryz.prog f_r01_size spRsize := ⟨cal_r01_size, fun args p v h hp => by
  unfold spRsize at h; split at h
  · cases h; exact (Rsize_c _ hp).pure
  · cases h⟩

noncomputable abbrev ctR1 : CT := [(f_r01_Wrap, .pure spRWrap), (f_r01_Fits, .pure spRFits), (f_r01_Unsigned, .pure spRUns), (f_r01_size, .pure spRsize)]
theorem ctR1_ok : CTok Tryz.prog ctR1 := ⟨ceRWrap, ceRFits, ceRUns, ceRsize, trivial⟩

theorem rAdd_c (a b : Int) (ha : I32 a) (hb : I32 b) : Con Tryz.prog f_r01_Add [.s (.int .i32 a), .s (.int .i32 b)] [] (.ret (.tup [.s (.int .i32 (Wd (a + b))), .s (.bool (wdO (a + b)))]) []) := by
  intro K hK
  refine enter fn_r01_Add rfl nt_r01_Add rfl rfl (fun φ w0 β0 F => ?_)
  refine c_run tt_ok ctR1_ok k_r01_Add [] 60 (by kernel_rfl) ?_
  unfold I32 at ha hb
  have e : IntKind.i64.wrap (IntKind.i64.wrap a + IntKind.i64.wrap b) = a + b := by simp only [IntKind.wrap_i64]; omega
  refine ⟨by rw [e]; omega, trivial, ?_⟩
  refine fin_k tt_ok (rs := rs_r01_Add) rfl rfl hK [] (t2b ?_ ?_) rfl rfl rfl rfl rfl
  · rw [e]
  · rw [e, Bool.not_not]

def sprAdd : List TV → Option (Prop × FV)
  | [.s (.int .i32 a), .s (.int .i32 b)] => some (I32 a ∧ I32 b, .tup [.s (.int .i32 (Wd (a + b))), .s (.bool (wdO (a + b)))])
  | _ => none
theorem cerAdd : CEok Tryz.prog f_r01_Add sprAdd := ⟨cal_r01_Add, fun args p v h hp => by
  unfold sprAdd at h; split at h
  · cases h; exact (rAdd_c _ _ hp.1 hp.2).pure
  · cases h⟩

theorem rSub_c (a b : Int) (ha : I32 a) (hb : I32 b) : Con Tryz.prog f_r01_Sub [.s (.int .i32 a), .s (.int .i32 b)] [] (.ret (.tup [.s (.int .i32 (Wd (a - b))), .s (.bool (wdO (a - b)))]) []) := by
  intro K hK
  refine enter fn_r01_Sub rfl nt_r01_Sub rfl rfl (fun φ w0 β0 F => ?_)
  refine c_run tt_ok ctR1_ok k_r01_Sub [] 60 (by kernel_rfl) ?_
  unfold I32 at ha hb
  have e : IntKind.i64.wrap (IntKind.i64.wrap a - IntKind.i64.wrap b) = a - b := by simp only [IntKind.wrap_i64]; omega
  refine ⟨by rw [e]; omega, trivial, ?_⟩
  refine fin_k tt_ok (rs := rs_r01_Sub) rfl rfl hK [] (t2b ?_ ?_) rfl rfl rfl rfl rfl
  · rw [e]
  · rw [e, Bool.not_not]

def sprSub : List TV → Option (Prop × FV)
  | [.s (.int .i32 a), .s (.int .i32 b)] => some (I32 a ∧ I32 b, .tup [.s (.int .i32 (Wd (a - b))), .s (.bool (wdO (a - b)))])
  | _ => none
theorem cerSub : CEok Tryz.prog f_r01_Sub sprSub := ⟨cal_r01_Sub, fun args p v h hp => by
  unfold sprSub at h; split at h
  · cases h; exact (rSub_c _ _ hp.1 hp.2).pure
  · cases h⟩

theorem rMul_c (a b : Int) (ha : I32 a) (hb : I32 b) : Con Tryz.prog f_r01_Mul [.s (.int .i32 a), .s (.int .i32 b)] [] (.ret (.tup [.s (.int .i32 (Wd (a * b))), .s (.bool (wdO (a * b)))]) []) := by
  intro K hK
  refine enter fn_r01_Mul rfl nt_r01_Mul rfl rfl (fun φ w0 β0 F => ?_)
  refine c_run tt_ok ctR1_ok k_r01_Mul [] 60 (by kernel_rfl) ?_
  have hm := mul_i62 ha hb
  unfold I32 at ha hb
  have e : IntKind.i64.wrap (IntKind.i64.wrap a * IntKind.i64.wrap b) = a * b := by
    rw [wrap64 (n := a) (by omega) (by omega), wrap64 (n := b) (by omega) (by omega)]
    generalize a * b = p at *
    rw [wrap64 (by omega) (by omega)]
  refine ⟨by rw [e]; omega, trivial, ?_⟩
  refine fin_k tt_ok (rs := rs_r01_Mul) rfl rfl hK [] (t2b ?_ ?_) rfl rfl rfl rfl rfl
  · rw [e]
  · rw [e, Bool.not_not]

def sprMul : List TV → Option (Prop × FV)
  | [.s (.int .i32 a), .s (.int .i32 b)] => some (I32 a ∧ I32 b, .tup [.s (.int .i32 (Wd (a * b))), .s (.bool (wdO (a * b)))])
  | _ => none
theorem cerMul : CEok Tryz.prog f_r01_Mul sprMul := ⟨cal_r01_Mul, fun args p v h hp => by
  unfold sprMul at h; split at h
  · cases h; exact (rMul_c _ _ hp.1 hp.2).pure
  · cases h⟩

theorem rCsub0_c (a b : Int) (ha : I32 a) (hb : I32 b) : Con Tryz.prog f_r01_Csub0 [.s (.int .i32 a), .s (.int .i32 b)] [] (.ret (.tup [.s (.int .i32 a), .s (.bool (decide (Uw a ≥ Uw b)))]) []) := by
  intro K hK
  refine enter fn_r01_Csub0 rfl nt_r01_Csub0 rfl rfl (fun φ w0 β0 F => ?_)
  refine c_run tt_ok ctR1_ok k_r01_Csub0 [] 60 (by kernel_rfl) ?_
  refine ⟨ha, hb, ?_⟩
  exact fin_k tt_ok (rs := rs_r01_Csub0) rfl rfl hK [] rfl rfl rfl rfl rfl rfl

def sprCsub0 : List TV → Option (Prop × FV)
  | [.s (.int .i32 a), .s (.int .i32 b)] => some (I32 a ∧ I32 b, .tup [.s (.int .i32 a), .s (.bool (decide (Uw a ≥ Uw b)))])
  | _ => none
theorem cerCsub0 : CEok Tryz.prog f_r01_Csub0 sprCsub0 := ⟨cal_r01_Csub0, fun args p v h hp => by
  unfold sprCsub0 at h; split at h
  · cases h; exact (rCsub0_c _ _ hp.1 hp.2).pure
  · cases h⟩

theorem rCcnt1_c (a b : Int) (ha : I32 a) (hb : I32 b) : Con Tryz.prog f_r01_Ccnt1 [.s (.int .i32 a), .s (.int .i32 b)] [] (.ret (.tup [.s (.int .i32 a), .s (.bool (bif a == 0 then true else decide (Uw a > Uw b)))]) []) := by
  intro K hK
  refine enter fn_r01_Ccnt1 rfl nt_r01_Ccnt1 rfl rfl (fun φ w0 β0 F => ?_)
  refine c_run tt_ok ctR1_ok k_r01_Ccnt1 [] 60 (by kernel_rfl) ?_
  refine ⟨fun _ => ha, fun _ => hb, ?_⟩
  exact fin_k tt_ok (rs := rs_r01_Ccnt1) rfl rfl hK [] rfl rfl rfl rfl rfl rfl

def sprCcnt1 : List TV → Option (Prop × FV)
  | [.s (.int .i32 a), .s (.int .i32 b)] => some (I32 a ∧ I32 b, .tup [.s (.int .i32 a), .s (.bool (bif a == 0 then true else decide (Uw a > Uw b)))])
  | _ => none
theorem cerCcnt1 : CEok Tryz.prog f_r01_Ccnt1 sprCcnt1 := ⟨cal_r01_Ccnt1, fun args p v h hp => by
  unfold sprCcnt1 at h; split at h
  · cases h; exact (rCcnt1_c _ _ hp.1 hp.2).pure
  · cases h⟩

theorem rCword_c (a b : Int) (_ha : I32 a) (hb : I32 b) : Con Tryz.prog f_r01_Cword [.s (.int .i32 a), .s (.int .i32 b)] [] (.ret (.tup [.s (.int .i32 a), .s (.bool (bif decide (a ≥ b) then true else decide (a < Wd (-b))))]) []) := by
  intro K hK
  refine enter fn_r01_Cword rfl nt_r01_Cword rfl rfl (fun φ w0 β0 F => ?_)
  refine c_run tt_ok ctR1_ok k_r01_Cword [] 60 (by kernel_rfl) ?_
  unfold I32 at _ha hb
  have e : IntKind.i64.wrap (0 - IntKind.i64.wrap b) = -b := by simp only [IntKind.wrap_i64]; omega
  refine ⟨fun _ => ⟨i64_lo _, i64_hi _⟩, ?_⟩
  refine fin_k tt_ok (rs := rs_r01_Cword) rfl rfl hK [] (t2b rfl ?_) rfl rfl rfl rfl rfl
  rw [e]

def sprCword : List TV → Option (Prop × FV)
  | [.s (.int .i32 a), .s (.int .i32 b)] => some (I32 a ∧ I32 b, .tup [.s (.int .i32 a), .s (.bool (bif decide (a ≥ b) then true else decide (a < Wd (-b))))])
  | _ => none
theorem cerCword : CEok Tryz.prog f_r01_Cword sprCword := ⟨cal_r01_Cword, fun args p v h hp => by
  unfold sprCword at h; split at h
  · cases h; exact (rCword_c _ _ hp.1 hp.2).pure
  · cases h⟩

theorem rXword_c (a b : Int) (ha : I32 a) (hb : I32 b) : Con Tryz.prog f_r01_Xword [.s (.int .i32 a), .s (.int .i32 b)] [] (.ret (.t (.s (.int .i32 (bif decide (Uw a < Uw b) then a else Wd (a - 2 * b))))) []) := by
  intro K hK
  refine enter fn_r01_Xword rfl nt_r01_Xword rfl rfl (fun φ w0 β0 F => ?_)
  refine c_run tt_ok ctR1_ok k_r01_Xword [] 60 (by kernel_rfl) ?_
  refine ⟨ha, hb, fun h => ?_, fun h => ?_⟩
  · rw [h] at hK
    exact fin_k tt_ok (rs := rs_r01_Xword) rfl rfl hK [] rfl rfl rfl rfl rfl rfl
  · rw [h] at hK
    unfold I32 at ha hb
    refine ⟨⟨i64_lo _, i64_hi _⟩, ?_⟩
    refine fin_k tt_ok (rs := rs_r01_Xword) rfl rfl hK [] (t1 ?_) rfl rfl rfl rfl rfl
    simp only [IntKind.wrap_i64, Wd, cond_false]; omega

def sprXword : List TV → Option (Prop × FV)
  | [.s (.int .i32 a), .s (.int .i32 b)] => some (I32 a ∧ I32 b, .t (.s (.int .i32 (bif decide (Uw a < Uw b) then a else Wd (a - 2 * b)))))
  | _ => none
theorem cerXword : CEok Tryz.prog f_r01_Xword sprXword := ⟨cal_r01_Xword, fun args p v h hp => by
  unfold sprXword at h; split at h
  · cases h; exact (rXword_c _ _ hp.1 hp.2).pure
  · cases h⟩

theorem tmod_abs (a b : Int) : ((a.natAbs : Int).tmod (b.natAbs : Int)) = ((a.natAbs % b.natAbs : Nat) : Int) := by
  rw [Int.tmod_eq_emod_of_nonneg (by omega)]; rfl
theorem tdiv_abs (a b : Int) : ((a.natAbs : Int).tdiv (b.natAbs : Int)) = ((a.natAbs / b.natAbs : Nat) : Int) := by
  rw [Int.tdiv_eq_ediv_of_nonneg (by omega)]; rfl
theorem rem_sign (a b : Int) : a.tmod b = bif decide (a < 0) then -((a.natAbs % b.natAbs : Nat) : Int) else ((a.natAbs % b.natAbs : Nat) : Int) := by
  have h1 : (a.tmod b).natAbs = a.natAbs % b.natAbs := Int.natAbs_tmod _ _
  by_cases h : a < 0
  · rw [decide_eq_true h, cond_true]
    have : a.tmod b ≤ 0 := by
      have : a = -(-a) := by omega
      rw [this, Int.neg_tmod]
      have := Int.tmod_nonneg b (show 0 ≤ -a by omega)
      omega
    omega
  · rw [decide_eq_false h, cond_false]
    have := Int.tmod_nonneg b (show 0 ≤ a by omega)
    omega
theorem rem_neg {a b : Int} (_ha : I32 a) (hb : I32 b) (hz : b ≠ 0) (h : a < 0) : IntKind.i32.wrap (IntKind.i64.wrap (0 - (a.natAbs : Int).tmod (b.natAbs : Int))) = (bif false then 0 else a.tmod b) := by
  have h2 : a.natAbs % b.natAbs < b.natAbs := Nat.mod_lt _ (by omega)
  have h3 := rem_sign a b
  rw [decide_eq_true h, cond_true] at h3
  unfold I32 at _ha hb
  rw [tmod_abs, IntKind.wrap_i64, IntKind.wrap_i32]
  show _ = a.tmod b
  rw [h3]; omega
theorem rem_pos {a b : Int} (_ha : I32 a) (hb : I32 b) (hz : b ≠ 0) (h : ¬ a < 0) : IntKind.i32.wrap ((a.natAbs : Int).tmod (b.natAbs : Int)) = (bif false then 0 else a.tmod b) := by
  have h2 : a.natAbs % b.natAbs < b.natAbs := Nat.mod_lt _ (by omega)
  have h3 := rem_sign a b
  rw [decide_eq_false h, cond_false] at h3
  unfold I32 at _ha hb
  rw [tmod_abs, IntKind.wrap_i32]
  show _ = a.tmod b
  rw [h3]; omega

theorem rRem_c (a b : Int) (ha : I32 a) (hb : I32 b) : Con Tryz.prog f_r01_Rem [.s (.int .i32 a), .s (.int .i32 b)] [] (.ret (.tup [.s (.int .i32 (bif b == 0 then 0 else a.tmod b)), .s (.bool (b == 0))]) []) := by
  intro K hK
  refine enter fn_r01_Rem rfl nt_r01_Rem rfl rfl (fun φ w0 β0 F => ?_)
  refine c_run tt_ok ctR1_ok k_r01_Rem [] 60 (by kernel_rfl) ?_
  refine ⟨fun h => ?_, fun h => ⟨ha, hb, ?_, fun h2 => ?_, fun h2 => ?_⟩⟩
  · rw [show (b == 0) = true from h] at hK
    exact fin_k tt_ok (rs := rs_r01_Rem) rfl rfl hK [] rfl rfl rfl rfl rfl rfl
  all_goals have hz : b ≠ 0 := by simpa using h
  · show (b.natAbs : Int) ≠ 0
    omega
  · rw [show (b == 0) = false from h] at hK
    have h2' := of_decide_eq_true h2
    refine fin_k tt_ok (rs := rs_r01_Rem) rfl rfl hK [] (t2b ?_ rfl) rfl rfl rfl rfl rfl
    exact rem_neg ha hb hz h2'
  · rw [show (b == 0) = false from h] at hK
    have h2' := of_decide_eq_false h2
    refine fin_k tt_ok (rs := rs_r01_Rem) rfl rfl hK [] (t2b ?_ rfl) rfl rfl rfl rfl rfl
    exact rem_pos ha hb hz h2'

def sprRem : List TV → Option (Prop × FV)
  | [.s (.int .i32 a), .s (.int .i32 b)] => some (I32 a ∧ I32 b, .tup [.s (.int .i32 (bif b == 0 then 0 else a.tmod b)), .s (.bool (b == 0))])
  | _ => none
theorem cerRem : CEok Tryz.prog f_r01_Rem sprRem := ⟨cal_r01_Rem, fun args p v h hp => by
  unfold sprRem at h; split at h
  · cases h; exact (rRem_c _ _ hp.1 hp.2).pure
  · cases h⟩

theorem div_sign (a b : Int) : a.tdiv b = bif (decide (a < 0) != decide (b < 0)) then -((a.natAbs / b.natAbs : Nat) : Int) else ((a.natAbs / b.natAbs : Nat) : Int) := by
  by_cases h1 : a < 0 <;> by_cases h2 : b < 0
  · rw [decide_eq_true h1, decide_eq_true h2]
    obtain ⟨x, rfl⟩ : ∃ x, a = -x := ⟨-a, by omega⟩
    obtain ⟨y, rfl⟩ : ∃ y, b = -y := ⟨-b, by omega⟩
    rw [Int.neg_tdiv, Int.tdiv_neg, Int.neg_neg, Int.natAbs_neg, Int.natAbs_neg, ← tdiv_abs]
    show _ = (x.natAbs : Int).tdiv (y.natAbs : Int)
    rw [show (x.natAbs : Int) = x by omega, show (y.natAbs : Int) = y by omega]
  · rw [decide_eq_true h1, decide_eq_false h2]
    obtain ⟨x, rfl⟩ : ∃ x, a = -x := ⟨-a, by omega⟩
    rw [Int.neg_tdiv, Int.natAbs_neg, ← tdiv_abs]
    show _ = -(x.natAbs : Int).tdiv (b.natAbs : Int)
    rw [show (x.natAbs : Int) = x by omega, show (b.natAbs : Int) = b by omega]
  · rw [decide_eq_false h1, decide_eq_true h2]
    obtain ⟨y, rfl⟩ : ∃ y, b = -y := ⟨-b, by omega⟩
    rw [Int.tdiv_neg, Int.natAbs_neg, ← tdiv_abs]
    show _ = -(a.natAbs : Int).tdiv (y.natAbs : Int)
    rw [show (a.natAbs : Int) = a by omega, show (y.natAbs : Int) = y by omega]
  · rw [decide_eq_false h1, decide_eq_false h2, ← tdiv_abs]
    show _ = (a.natAbs : Int).tdiv (b.natAbs : Int)
    rw [show (a.natAbs : Int) = a by omega, show (b.natAbs : Int) = b by omega]
def dvC (a b : Int) : Bool := bif a == -2147483648 then b == -1 else false
theorem div_fits {a b : Int} (ha : I32 a) (hb : I32 b) (hz : b ≠ 0) : wdO (a.tdiv b) = dvC a b := by
  unfold dvC
  by_cases h : a = -2147483648 ∧ b = -1
  · obtain ⟨rfl, rfl⟩ := h; decide
  · have e := tdiv_fit ha hb (by intro h1 h2; exact h ⟨h1, h2⟩)
    rw [wrapW, cond_false] at e
    unfold wdO
    rw [e]
    by_cases h1 : a = -2147483648
    · have h2 : b ≠ -1 := fun h2 => h ⟨h1, h2⟩
      simp [h1, h2]
    · simp [h1]
theorem dv_lo {a b : Int} (ha : I32 a) : ((a.natAbs / b.natAbs : Nat) : Int) ≤ 2147483648 := by
  have h1 : a.natAbs / b.natAbs ≤ a.natAbs := Nat.div_le_self _ _
  unfold I32 at ha
  generalize a.natAbs / b.natAbs = q at h1 ⊢
  omega

theorem rDiv_c (a b : Int) (ha : I32 a) (hb : I32 b) : Con Tryz.prog f_r01_Div [.s (.int .i32 a), .s (.int .i32 b)] [] (.ret (.tup [.s (.int .i32 (bif (bif b == 0 then true else bif a == -2147483648 then b == -1 else false) then 0 else a.tdiv b)), .s (.bool (bif b == 0 then true else bif a == -2147483648 then b == -1 else false))]) []) := by
  intro K hK
  refine enter fn_r01_Div rfl nt_r01_Div rfl rfl (fun φ w0 β0 F => ?_)
  refine c_run tt_ok ctR1_ok k_r01_Div [] 60 (by kernel_rfl) ?_
  have hdc : (bif b == 0 then true else bif a == -2147483648 then b == -1 else false) = bif b == 0 then true else dvC a b := rfl
  rw [hdc] at hK
  refine ⟨fun h => ?_, fun h => ?_⟩
  · rw [show (b == 0) = true from h] at hK
    exact fin_k tt_ok (rs := rs_r01_Div) rfl rfl hK [] rfl rfl rfl rfl rfl rfl
  have hz : b ≠ 0 := by simpa using h
  rw [show (b == 0) = false from h, cond_false] at hK
  have hq := div_sign a b
  have hf := div_fits ha hb hz
  have hl := dv_lo (b := b) ha
  have hw : IntKind.i64.wrap ((a.natAbs : Int).tdiv (b.natAbs : Int)) = ((a.natAbs / b.natAbs : Nat) : Int) := by
    rw [tdiv_abs]
    generalize a.natAbs / b.natAbs = q at hl ⊢
    rw [wrap64 (by omega) (by omega)]
  have e64 : IntKind.i64.wrap (0 - IntKind.i64.wrap ((a.natAbs : Int).tdiv (b.natAbs : Int))) = -((a.natAbs / b.natAbs : Nat) : Int) := by
    rw [hw]
    generalize a.natAbs / b.natAbs = q at hl ⊢
    rw [wrap64 (by omega) (by omega)]; omega
  have hnz : (b.natAbs : Int) ≠ 0 := Int.ofNat_ne_zero.2 (Int.natAbs_ne_zero.2 hz)
  refine ⟨ha, hb, hnz, fun h2 => ⟨trivial, fun h3 => ?_, fun h3 => ?_⟩, fun h2 => ⟨trivial, fun h3 => ?_, fun h3 => ?_⟩⟩
  · have h2' : (decide (a < 0) != decide (b < 0)) = true := h2
    rw [h2', cond_true] at hq
    rw [e64, ← hq, Bool.not_not, hf] at h3
    rw [h3] at hK
    exact fin_k tt_ok (rs := rs_r01_Div) rfl rfl hK [] rfl rfl rfl rfl rfl rfl
  · have h2' : (decide (a < 0) != decide (b < 0)) = true := h2
    rw [h2', cond_true] at hq
    rw [e64, ← hq, Bool.not_not, hf] at h3
    rw [h3] at hK
    refine fin_k tt_ok (rs := rs_r01_Div) rfl rfl hK [] (t2b ?_ rfl) rfl rfl rfl rfl rfl
    rw [e64, ← hq]
    rw [← hf] at h3
    unfold wdO at h3
    rw [wrapW, cond_false]
    simpa using h3
  · have h2' : (decide (a < 0) != decide (b < 0)) = false := h2
    rw [h2', cond_false] at hq
    rw [hw, ← hq, Bool.not_not, hf] at h3
    rw [h3] at hK
    exact fin_k tt_ok (rs := rs_r01_Div) rfl rfl hK [] rfl rfl rfl rfl rfl rfl
  · have h2' : (decide (a < 0) != decide (b < 0)) = false := h2
    rw [h2', cond_false] at hq
    rw [hw, ← hq, Bool.not_not, hf] at h3
    rw [h3] at hK
    refine fin_k tt_ok (rs := rs_r01_Div) rfl rfl hK [] (t2b ?_ rfl) rfl rfl rfl rfl rfl
    rw [hw, ← hq]
    rw [← hf] at h3
    unfold wdO at h3
    rw [wrapW, cond_false]
    simpa using h3

def sprDiv : List TV → Option (Prop × FV)
  | [.s (.int .i32 a), .s (.int .i32 b)] => some (I32 a ∧ I32 b, .tup [.s (.int .i32 (bif (bif b == 0 then true else bif a == -2147483648 then b == -1 else false) then 0 else a.tdiv b)), .s (.bool (bif b == 0 then true else bif a == -2147483648 then b == -1 else false))])
  | _ => none
theorem cerDiv : CEok Tryz.prog f_r01_Div sprDiv := ⟨cal_r01_Div, fun args p v h hp => by
  unfold sprDiv at h; split at h
  · cases h; exact (rDiv_c _ _ hp.1 hp.2).pure
  · cases h⟩

end Go.Proofs

namespace Go.Proofs
open Go Go.Sx
set_option maxRecDepth 10000
theorem Wd_dbl (x : Int) : Wd (2 * Wd x) = Wd (2 * x) := by unfold Wd; omega
theorem shl_step (a : Int) (i : Nat) : Wd (2 * Wd (a * 2 ^ i)) = Wd (a * 2 ^ (i + 1)) := by
  rw [Wd_dbl, Int.pow_succ, Int.mul_comm 2, Int.mul_assoc]
theorem Wd_Uw_mul (a x : Int) : Wd (Uw a * x) = Wd (a * x) := by
  have h : Uw a = a - 4294967296 * (a / 4294967296) := by unfold Uw; omega
  rw [h, Int.sub_mul]
  unfold Wd
  have e : 4294967296 * (a / 4294967296) * x = 4294967296 * (a / 4294967296 * x) := by rw [Int.mul_assoc]
  rw [e]
  generalize a / 4294967296 * x = y
  generalize a * x = z
  omega
theorem shl_end {a n : Int} {i : Nat} (h : (i : Int) ≤ Uw n) (h2 : i ≤ 32) (he : (bif decide ((i : Int) < Uw n) then decide ((i : Int) < 32) else false) = false) : Wd (a * 2 ^ i) = shlS a n := by
  unfold shlS
  have h3 : (i : Int) = Uw n ∧ i < 32 ∨ i = 32 := by
    by_cases h4 : (i : Int) < Uw n
    · rw [decide_eq_true h4, cond_true] at he
      have := of_decide_eq_false he
      omega
    · omega
  rcases h3 with ⟨h3, h4⟩ | rfl
  · rw [show decide (Uw n > 31) = false by simp; omega, cond_false, Wd_Uw_mul, ← h3]; rfl
  · rw [show decide (Uw n > 31) = true by simp; omega, cond_true]
    unfold Wd
    have : (2 : Int) ^ 32 = 4294967296 := rfl
    rw [this]; omega
theorem lt_cond {i : Nat} {n : Int} (h : (bif decide ((i : Int) < Uw n) then decide ((i : Int) < 32) else false) = true) : (i : Int) < Uw n ∧ i < 32 := by
  by_cases h4 : (i : Int) < Uw n
  · rw [decide_eq_true h4, cond_true] at h
    have := of_decide_eq_true h
    omega
  · rw [decide_eq_false h4, cond_false] at h; exact absurd h (by decide)
theorem rShl_c (a b : Int) (ha : I32 a) (hb : I32 b) : Con Tryz.prog f_r01_Shl [.s (.int .i32 a), .s (.int .i32 b)] [] (.ret (.t (.s (.int .i32 (shlS a b)))) []) := by
  intro K hK
  refine enter fn_r01_Shl rfl nt_r01_Shl rfl rfl (fun φ w0 β0 F => ?_)
  refine c_run tt_ok ctR1_ok k_r01_Shl [] 60 (by kernel_rfl) ?_
  show WpC _ _ _ _ _
  refine c_loop (α := Nat) (fun i => (i : Int) ≤ Uw b ∧ i ≤ 32) (fun i => 32 - i)
    (fun i => [(1, .t (.s (.int .i32 b)), none), (5, .t (.s (.int .i32 (Wd (a * 2 ^ i)))), none), (6, .t (.s (.int .i64 (i : Int))), none)])
    (fun _ => []) 0 ⟨Uw_lo b, Nat.zero_le _⟩ ?_ ?_
  · have e0 : a = Wd (a * 2 ^ 0) := by rw [Int.pow_zero, Int.mul_one, Wd_of ha]
    exact into [] ⟨⟨_, rfl, rfl⟩, ⟨_, rfl, fvi e0⟩, ⟨_, rfl, rfl⟩, trivial⟩ ⟨_, rfl, rfl⟩ rfl rfl rfl rfl
  · intro i hi
    obtain ⟨hi1, hi2⟩ := hi
    dsimp only
    refine c_run' tt_ok ctR1_ok k_r01_Shl [] 60 (by kernel_rfl) (by kernel_rfl) ?_
    have hW := Wd_i32 (a * 2 ^ i)
    have e2 : IntKind.i64.wrap (2 * IntKind.i64.wrap (Wd (a * 2 ^ i))) = 2 * Wd (a * 2 ^ i) := by
      generalize Wd (a * 2 ^ i) = y at hW ⊢
      unfold I32 at hW
      rw [wrap64 (n := y) (by omega) (by omega), wrap64 (by omega) (by omega)]
    refine ⟨hb, fun h => ⟨⟨i64_lo _, i64_hi _⟩, ?_⟩, fun h => ?_⟩
    · obtain ⟨h1, h2⟩ := lt_cond h
      refine e_again (i + 1) ⟨by show ((i + 1 : Nat) : Int) ≤ Uw b; omega, by show i + 1 ≤ 32; omega⟩ (by show 32 - (i + 1) < 32 - i; omega) (into [] ⟨⟨_, rfl, rfl⟩, ⟨_, rfl, fvi ?_⟩, ⟨_, rfl, fvi (wrapSucc (by omega))⟩, trivial⟩ ⟨_, rfl, rfl⟩ rfl rfl rfl rfl)
      rw [e2]; exact shl_step a i
    · rw [← shl_end hi1 hi2 h] at hK
      exact fin_k tt_ok (rs := rs_r01_Shl) rfl rfl hK [] rfl rfl rfl rfl rfl rfl
theorem shr_step (u : Int) (i : Nat) : u / 2 ^ i / 2 = u / 2 ^ (i + 1) := by
  rw [Int.ediv_ediv_of_nonneg (Int.le_of_lt (Int.pow_pos (by decide))), Int.pow_succ]
theorem shr_end {n : Int} {i : Nat} (h : (i : Int) ≤ Uw n) (h2 : i ≤ 32) (he : (bif decide ((i : Int) < Uw n) then decide ((i : Int) < 32) else false) = false) : i = min (Uw n).toNat 32 := by
  by_cases h4 : (i : Int) < Uw n
  · rw [decide_eq_true h4, cond_true] at he
    have := of_decide_eq_false he
    omega
  · omega
theorem shr_rng {u : Int} (h0 : 0 ≤ u) (h1 : u < 4294967296) (i : Nat) : 0 ≤ u / 2 ^ i ∧ u / 2 ^ i < 4294967296 := by
  have hp : (0 : Int) < 2 ^ i := Int.pow_pos (by decide)
  exact ⟨Int.ediv_nonneg h0 (Int.le_of_lt hp), Int.lt_of_le_of_lt (Int.ediv_le_self _ h0) h1⟩
theorem rShr_c (a b : Int) (ha : I32 a) (hb : I32 b) : Con Tryz.prog f_r01_Shr [.s (.int .i32 a), .s (.int .i32 b)] [] (.ret (.t (.s (.int .i32 (Wd (Uw a / 2 ^ min (Uw b).toNat 32))))) []) := by
  intro K hK
  refine enter fn_r01_Shr rfl nt_r01_Shr rfl rfl (fun φ w0 β0 F => ?_)
  refine c_run tt_ok ctR1_ok k_r01_Shr [] 60 (by kernel_rfl) ?_
  refine ⟨ha, ?_⟩
  show WpC _ _ _ _ _
  refine c_loop (α := Nat) (fun i => (i : Int) ≤ Uw b ∧ i ≤ 32) (fun i => 32 - i)
    (fun i => [(1, .t (.s (.int .i32 b)), none), (5, .t (.s (.int .i64 (Uw a / 2 ^ i))), none), (6, .t (.s (.int .i64 (i : Int))), none)])
    (fun _ => []) 0 ⟨Uw_lo b, Nat.zero_le _⟩ ?_ ?_
  · have e0 : Uw a = Uw a / 2 ^ 0 := by rw [Int.pow_zero, Int.ediv_one]
    exact into [] ⟨⟨_, rfl, rfl⟩, ⟨_, rfl, fvi e0⟩, ⟨_, rfl, rfl⟩, trivial⟩ ⟨_, rfl, rfl⟩ rfl rfl rfl rfl
  · intro i hi
    obtain ⟨hi1, hi2⟩ := hi
    dsimp only
    refine c_run' tt_ok ctR1_ok k_r01_Shr [] 60 (by kernel_rfl) (by kernel_rfl) ?_
    have hr := shr_rng (Uw_lo a) (Uw_hi a) i
    refine ⟨hb, fun h => ?_, fun h => ⟨?_, ?_⟩⟩
    · obtain ⟨h1, h2⟩ := lt_cond h
      refine e_again (i + 1) ⟨by show ((i + 1 : Nat) : Int) ≤ Uw b; omega, by show i + 1 ≤ 32; omega⟩ (by show 32 - (i + 1) < 32 - i; omega) (into [] ⟨⟨_, rfl, rfl⟩, ⟨_, rfl, fvi ?_⟩, ⟨_, rfl, fvi (wrapSucc (by omega))⟩, trivial⟩ ⟨_, rfl, rfl⟩ rfl rfl rfl rfl)
      rw [← shr_step]
      generalize Uw a / 2 ^ i = y at hr ⊢
      rw [Int.tdiv_eq_ediv_of_nonneg hr.1, wrap64 (by omega) (by omega)]
    · rw [← shr_end hi1 hi2 h] at hK
      generalize Uw a / 2 ^ i = y at hr ⊢
      constructor <;> omega
    · rw [← shr_end hi1 hi2 h] at hK
      exact fin_k tt_ok (rs := rs_r01_Shr) rfl rfl hK [] rfl rfl rfl rfl rfl rfl
def sprShl : List TV → Option (Prop × FV)
  | [.s (.int .i32 a), .s (.int .i32 b)] => some (I32 a ∧ I32 b, .t (.s (.int .i32 (shlS a b))))
  | _ => none
theorem cerShl : CEok Tryz.prog f_r01_Shl sprShl := ⟨cal_r01_Shl, fun args p v h hp => by
  unfold sprShl at h; split at h
  · cases h; exact (rShl_c _ _ hp.1 hp.2).pure
  · cases h⟩
def sprShr : List TV → Option (Prop × FV)
  | [.s (.int .i32 a), .s (.int .i32 b)] => some (I32 a ∧ I32 b, .t (.s (.int .i32 (Wd (Uw a / 2 ^ min (Uw b).toNat 32)))))
  | _ => none
theorem cerShr : CEok Tryz.prog f_r01_Shr sprShr := ⟨cal_r01_Shr, fun args p v h hp => by
  unfold sprShr at h; split at h
  · cases h; exact (rShr_c _ _ hp.1 hp.2).pure
  · cases h⟩
end Go.Proofs

namespace Go.Proofs
open Go Go.Sx
set_option maxRecDepth 10000
structure Mach where
  k : Core
  e : Int
  m : Ram
def Core.mv (k : Core) (e : Int) : List SV := k.sv ++ [.loc 1 0, .int .i64 e]
abbrev mBox2 (n : Nat) : Ch := .blk 63 [.sl 2 0 n n]
def Mach.chunks : Mach → List Ch
  | ⟨k, e, m⟩ => [.blk 67 (k.mv e), mBox2 m.l.length, mOwn m.l]
def withMach.{u} {β : Type u} (cs : List SV) (f : (k : Core) → (e : Int) → cs = k.mv e → Option β) : Option β := match cs, f with
  | [.int .i32 a, .int .i32 b, .int .i32 c, .int .i32 iptr, .int .i32 wptr, .int .i64 pri, .bool busy, .bool err, .bool hoe, .bool halted, .int .i32 f0, .int .i32 f1, .int .i32 b0, .int .i32 b1, .int .i32 t0, .int .i32 t1, .int .i32 k0, .int .i32 k1, .int .i32 ticks, .int .i32 slice, .bool sis, .int .i32 sa, .int .i32 sb, .int .i32 sc, .int .i32 siptr, .int .i32 swptr, .bool serr, .int .i32 sslice, .loc 1 0, .int .i64 e], f => f ⟨a, b, c, iptr, wptr, pri, busy, err, hoe, halted, f0, f1, b0, b1, t0, t1, k0, k1, ticks, slice, sis, sa, sb, sc, siptr, swptr, serr, sslice⟩ e rfl
  | _, _ => none
def eOr (e e' : Int) : Int := bif e == 0 then e' else e

noncomputable abbrev ctMW : CT := [(f_mem_Mem_Word, eWordT), (f_mem_Mem_SetWord, eSetWordT), (f_cpu_machine_fail, in_cpu_machine_fail [])]
theorem ctMW_ok : CTok Tryz.prog ctMW := ⟨con_ok cal_mem_Mem_Word _, con_ok cal_mem_Mem_SetWord _, in_cpu_machine_fail_ok (ct := []) trivial, trivial⟩
def Mach.load : Mach → Int → Mach
  | ⟨k, e, m⟩, a => ⟨k, eOr e (m.err a), m⟩
def Mach.store : Mach → Int → Int → Mach
  | ⟨k, e, m⟩, a, v => ⟨k, eOr e (m.err a), m.set a v⟩
theorem load_c (x : Mach) (a : Int) (ha : I32 a) : Con Tryz.prog f_cpu_machine_load [.s (.loc 0 0), .s (.int .i32 a)] x.chunks (.ret (.t (.s (.int .i32 (x.m.word a)))) (x.load a).chunks) := by
  obtain ⟨k, e, m⟩ := x
  intro K hK
  refine enter fn_cpu_machine_load rfl nt_cpu_machine_load rfl rfl (fun φ w0 β0 F => ?_)
  refine c_run tt_ok ctMW_ok k_cpu_machine_load [] 60 (by kernel_rfl) ?_
  refine ⟨m, ⟨rfl, rfl, rfl, rfl, ha⟩, fun h => ?_, fun h => ?_⟩
  · rw [show Mach.load ⟨k, e, m⟩ a = ⟨k, m.err a, m⟩ by simp [Mach.load, eOr, h]] at hK
    exact fin_k tt_ok (rs := rs_cpu_machine_load) rfl rfl hK [0, 1, 2] rfl rfl rfl rfl rfl rfl
  · rw [show Mach.load ⟨k, e, m⟩ a = ⟨k, e, m⟩ by simp [Mach.load, eOr, h]] at hK
    exact fin_k tt_ok (rs := rs_cpu_machine_load) rfl rfl hK [0, 1, 2] rfl rfl rfl rfl rfl rfl

noncomputable abbrev eLoad : Ent := .st (conS (P := Tryz.prog) (f := f_cpu_machine_load) fun cargs σ0 => match cargs, σ0 with
  | [.s (.loc 0 0), .s (.int .i32 a)], [.blk 67 cs, .blk 63 [.sl 2 0 n n'], .own 5 1 c xs] => withMach cs fun k e hk => some ⟨.ex Ram fun m => .ask (n = m.l.length ∧ n' = m.l.length ∧ c = m.l.length ∧ xs = bytesI m.l ∧ I32 a)
      (.ret (.t (.s (.int .i32 (m.word a)))) ((Mach.mk k e m).load a).chunks), fun K h => by
      obtain ⟨m, ⟨e1, e2, e3, e4, h1⟩, h⟩ := h
      subst e1; subst e2; subst e3; subst e4; subst hk
      exact load_c ⟨k, e, m⟩ a h1 K h⟩
  | _, _ => none)

theorem store_c (x : Mach) (a v : Int) (ha : I32 a) : Con Tryz.prog f_cpu_machine_store [.s (.loc 0 0), .s (.int .i32 a), .s (.int .i32 v)] x.chunks (.ret (.tup []) (x.store a v).chunks) := by
  obtain ⟨k, e, m⟩ := x
  intro K hK
  refine enter fn_cpu_machine_store rfl nt_cpu_machine_store rfl rfl (fun φ w0 β0 F => ?_)
  refine c_run tt_ok ctMW_ok k_cpu_machine_store [] 60 (by kernel_rfl) ?_
  refine ⟨m, ⟨rfl, rfl, rfl, rfl, ha⟩, fun h => ?_, fun h => ?_⟩
  · rw [show Mach.store ⟨k, e, m⟩ a v = ⟨k, m.err a, m.set a v⟩ by simp [Mach.store, eOr, h]] at hK
    exact fin_ke tt_ok (rs := rs_cpu_machine_store) rfl rfl hK [0, 1, 2] rfl rfl rfl rfl rfl rfl
  · rw [show Mach.store ⟨k, e, m⟩ a v = ⟨k, e, m.set a v⟩ by simp [Mach.store, eOr, h]] at hK
    exact fin_ke tt_ok (rs := rs_cpu_machine_store) rfl rfl hK [0, 1, 2] rfl rfl rfl rfl rfl rfl

noncomputable abbrev eStore : Ent := .st (conS (P := Tryz.prog) (f := f_cpu_machine_store) fun cargs σ0 => match cargs, σ0 with
  | [.s (.loc 0 0), .s (.int .i32 a), .s (.int .i32 v)], [.blk 67 cs, .blk 63 [.sl 2 0 n n'], .own 5 1 c xs] => withMach cs fun k e hk => some ⟨.ex Ram fun m => .ask (n = m.l.length ∧ n' = m.l.length ∧ c = m.l.length ∧ xs = bytesI m.l ∧ I32 a)
      (.ret (.tup []) ((Mach.mk k e m).store a v).chunks), fun K h => by
      obtain ⟨m, ⟨e1, e2, e3, e4, h1⟩, h⟩ := h
      subst e1; subst e2; subst e3; subst e4; subst hk
      exact store_c ⟨k, e, m⟩ a v h1 K h⟩
  | _, _ => none)

def Core.push (k : Core) (v : Int) : Core := { k with a := v, b := k.a, c := k.b }
theorem mpush_c (x : Mach) (v : Int)  : Con Tryz.prog f_cpu_machine_push [.s (.loc 0 0), .s (.int .i32 v)] x.chunks (.ret (.tup []) (Mach.mk (x.k.push v) x.e x.m).chunks) := by
  obtain ⟨k, e, m⟩ := x
  intro K hK
  refine enter fn_cpu_machine_push rfl nt_cpu_machine_push rfl rfl (fun φ w0 β0 F => ?_)
  refine c_run tt_ok (ct := []) trivial k_cpu_machine_push [] 60 (by kernel_rfl) ?_
  refine c_ways tt_ok (ct := []) trivial k_cpu_machine_push rfl rfl ?_
  repeat' (first | exact trivial | (refine And.intro ?_ ?_) | (refine fun _ => ?_))
  all_goals
    refine e_run tt_ok (ct := []) trivial k_cpu_machine_push [] 60 (by kernel_rfl) ?_
    exact fin_ke tt_ok (rs := rs_cpu_machine_push) rfl rfl hK [0, 1, 2] rfl rfl rfl rfl rfl rfl

noncomputable abbrev eMpush : Ent := .st (conS (P := Tryz.prog) (f := f_cpu_machine_push) fun cargs σ0 => match cargs, σ0 with
  | [.s (.loc 0 0), .s (.int .i32 v)], [.blk 67 cs, .blk 63 [.sl 2 0 n n'], .own 5 1 c xs] => withMach cs fun k e hk => some ⟨.ex Ram fun m => .ask (n = m.l.length ∧ n' = m.l.length ∧ c = m.l.length ∧ xs = bytesI m.l)
      (.ret (.tup []) (Mach.mk (k.push v) e m).chunks), fun K h => by
      obtain ⟨m, ⟨e1, e2, e3, e4⟩, h⟩ := h
      subst e1; subst e2; subst e3; subst e4; subst hk
      exact mpush_c ⟨k, e, m⟩ v  K h⟩
  | _, _ => none)

def Core.pop (k : Core) : Core := { k with a := k.b, b := k.c }
theorem mpop_c (x : Mach)  : Con Tryz.prog f_cpu_machine_pop [.s (.loc 0 0)] x.chunks (.ret (.tup []) (Mach.mk (x.k.pop) x.e x.m).chunks) := by
  obtain ⟨k, e, m⟩ := x
  intro K hK
  refine enter fn_cpu_machine_pop rfl nt_cpu_machine_pop rfl rfl (fun φ w0 β0 F => ?_)
  refine c_run tt_ok (ct := []) trivial k_cpu_machine_pop [] 60 (by kernel_rfl) ?_
  refine c_ways tt_ok (ct := []) trivial k_cpu_machine_pop rfl rfl ?_
  repeat' (first | exact trivial | (refine And.intro ?_ ?_) | (refine fun _ => ?_))
  all_goals
    refine e_run tt_ok (ct := []) trivial k_cpu_machine_pop [] 60 (by kernel_rfl) ?_
    exact fin_ke tt_ok (rs := rs_cpu_machine_pop) rfl rfl hK [0, 1, 2] rfl rfl rfl rfl rfl rfl

noncomputable abbrev eMpop : Ent := .st (conS (P := Tryz.prog) (f := f_cpu_machine_pop) fun cargs σ0 => match cargs, σ0 with
  | [.s (.loc 0 0)], [.blk 67 cs, .blk 63 [.sl 2 0 n n'], .own 5 1 c xs] => withMach cs fun k e hk => some ⟨.ex Ram fun m => .ask (n = m.l.length ∧ n' = m.l.length ∧ c = m.l.length ∧ xs = bytesI m.l)
      (.ret (.tup []) (Mach.mk (k.pop) e m).chunks), fun K h => by
      obtain ⟨m, ⟨e1, e2, e3, e4⟩, h⟩ := h
      subst e1; subst e2; subst e3; subst e4; subst hk
      exact mpop_c ⟨k, e, m⟩  K h⟩
  | _, _ => none)

def Core.check (k : Core) (o : Bool) : Core := { k with err := bif k.err then true else o }
theorem mcheck_c (x : Mach) (o : Bool)  : Con Tryz.prog f_cpu_machine_check [.s (.loc 0 0), .s (.bool o)] x.chunks (.ret (.tup []) (Mach.mk (x.k.check o) x.e x.m).chunks) := by
  obtain ⟨k, e, m⟩ := x
  intro K hK
  refine enter fn_cpu_machine_check rfl nt_cpu_machine_check rfl rfl (fun φ w0 β0 F => ?_)
  refine c_run tt_ok (ct := []) trivial k_cpu_machine_check [] 60 (by kernel_rfl) ?_
  exact fin_ke tt_ok (rs := rs_cpu_machine_check) rfl rfl hK [0, 1, 2] rfl rfl rfl rfl rfl rfl

noncomputable abbrev eMcheck : Ent := .st (conS (P := Tryz.prog) (f := f_cpu_machine_check) fun cargs σ0 => match cargs, σ0 with
  | [.s (.loc 0 0), .s (.bool o)], [.blk 67 cs, .blk 63 [.sl 2 0 n n'], .own 5 1 c xs] => withMach cs fun k e hk => some ⟨.ex Ram fun m => .ask (n = m.l.length ∧ n' = m.l.length ∧ c = m.l.length ∧ xs = bytesI m.l)
      (.ret (.tup []) (Mach.mk (k.check o) e m).chunks), fun K h => by
      obtain ⟨m, ⟨e1, e2, e3, e4⟩, h⟩ := h
      subst e1; subst e2; subst e3; subst e4; subst hk
      exact mcheck_c ⟨k, e, m⟩ o  K h⟩
  | _, _ => none)

def Core.rev (k : Core) : Core := { k with a := k.b, b := k.a }
theorem mrev_c (x : Mach)  : Con Tryz.prog f_cpu_machine_rev [.s (.loc 0 0)] x.chunks (.ret (.tup []) (Mach.mk (x.k.rev) x.e x.m).chunks) := by
  obtain ⟨k, e, m⟩ := x
  intro K hK
  refine enter fn_cpu_machine_rev rfl nt_cpu_machine_rev rfl rfl (fun φ w0 β0 F => ?_)
  refine c_run tt_ok (ct := []) trivial k_cpu_machine_rev [] 60 (by kernel_rfl) ?_
  refine c_ways tt_ok (ct := []) trivial k_cpu_machine_rev rfl rfl ?_
  repeat' (first | exact trivial | (refine And.intro ?_ ?_) | (refine fun _ => ?_))
  all_goals
    refine e_run tt_ok (ct := []) trivial k_cpu_machine_rev [] 60 (by kernel_rfl) ?_
    exact fin_ke tt_ok (rs := rs_cpu_machine_rev) rfl rfl hK [0, 1, 2] rfl rfl rfl rfl rfl rfl

noncomputable abbrev eMrev : Ent := .st (conS (P := Tryz.prog) (f := f_cpu_machine_rev) fun cargs σ0 => match cargs, σ0 with
  | [.s (.loc 0 0)], [.blk 67 cs, .blk 63 [.sl 2 0 n n'], .own 5 1 c xs] => withMach cs fun k e hk => some ⟨.ex Ram fun m => .ask (n = m.l.length ∧ n' = m.l.length ∧ c = m.l.length ∧ xs = bytesI m.l)
      (.ret (.tup []) (Mach.mk (k.rev) e m).chunks), fun K h => by
      obtain ⟨m, ⟨e1, e2, e3, e4⟩, h⟩ := h
      subst e1; subst e2; subst e3; subst e4; subst hk
      exact mrev_c ⟨k, e, m⟩  K h⟩
  | _, _ => none)

def Core.not (k : Core) : Core := { k with a := notI .i32 k.a }
theorem mnot_c (x : Mach)  : Con Tryz.prog f_cpu_machine_not [.s (.loc 0 0)] x.chunks (.ret (.tup []) (Mach.mk (x.k.not) x.e x.m).chunks) := by
  obtain ⟨k, e, m⟩ := x
  intro K hK
  refine enter fn_cpu_machine_not rfl nt_cpu_machine_not rfl rfl (fun φ w0 β0 F => ?_)
  refine c_run tt_ok (ct := []) trivial k_cpu_machine_not [] 60 (by kernel_rfl) ?_
  exact fin_ke tt_ok (rs := rs_cpu_machine_not) rfl rfl hK [0, 1, 2] rfl rfl rfl rfl rfl rfl

noncomputable abbrev eMnot : Ent := .st (conS (P := Tryz.prog) (f := f_cpu_machine_not) fun cargs σ0 => match cargs, σ0 with
  | [.s (.loc 0 0)], [.blk 67 cs, .blk 63 [.sl 2 0 n n'], .own 5 1 c xs] => withMach cs fun k e hk => some ⟨.ex Ram fun m => .ask (n = m.l.length ∧ n' = m.l.length ∧ c = m.l.length ∧ xs = bytesI m.l)
      (.ret (.tup []) (Mach.mk (k.not) e m).chunks), fun K h => by
      obtain ⟨m, ⟨e1, e2, e3, e4⟩, h⟩ := h
      subst e1; subst e2; subst e3; subst e4; subst hk
      exact mnot_c ⟨k, e, m⟩  K h⟩
  | _, _ => none)

def Core.ldpi (k : Core) : Core := { k with a := IntKind.i32.wrap (k.a + k.iptr) }
theorem mldpi_c (x : Mach)  : Con Tryz.prog f_cpu_machine_ldpi [.s (.loc 0 0)] x.chunks (.ret (.tup []) (Mach.mk (x.k.ldpi) x.e x.m).chunks) := by
  obtain ⟨k, e, m⟩ := x
  intro K hK
  refine enter fn_cpu_machine_ldpi rfl nt_cpu_machine_ldpi rfl rfl (fun φ w0 β0 F => ?_)
  refine c_run tt_ok (ct := []) trivial k_cpu_machine_ldpi [] 60 (by kernel_rfl) ?_
  refine c_ways tt_ok (ct := []) trivial k_cpu_machine_ldpi rfl rfl ?_
  repeat' (first | exact trivial | (refine And.intro ?_ ?_) | (refine fun _ => ?_))
  all_goals
    refine e_run tt_ok (ct := []) trivial k_cpu_machine_ldpi [] 60 (by kernel_rfl) ?_
    exact fin_ke tt_ok (rs := rs_cpu_machine_ldpi) rfl rfl hK [0, 1, 2] rfl rfl rfl rfl rfl rfl

noncomputable abbrev eMldpi : Ent := .st (conS (P := Tryz.prog) (f := f_cpu_machine_ldpi) fun cargs σ0 => match cargs, σ0 with
  | [.s (.loc 0 0)], [.blk 67 cs, .blk 63 [.sl 2 0 n n'], .own 5 1 c xs] => withMach cs fun k e hk => some ⟨.ex Ram fun m => .ask (n = m.l.length ∧ n' = m.l.length ∧ c = m.l.length ∧ xs = bytesI m.l)
      (.ret (.tup []) (Mach.mk (k.ldpi) e m).chunks), fun K h => by
      obtain ⟨m, ⟨e1, e2, e3, e4⟩, h⟩ := h
      subst e1; subst e2; subst e3; subst e4; subst hk
      exact mldpi_c ⟨k, e, m⟩  K h⟩
  | _, _ => none)

def Core.gcall (k : Core) : Core := { k with a := k.iptr, iptr := k.a }
theorem mgcall_c (x : Mach)  : Con Tryz.prog f_cpu_machine_gcall [.s (.loc 0 0)] x.chunks (.ret (.tup []) (Mach.mk (x.k.gcall) x.e x.m).chunks) := by
  obtain ⟨k, e, m⟩ := x
  intro K hK
  refine enter fn_cpu_machine_gcall rfl nt_cpu_machine_gcall rfl rfl (fun φ w0 β0 F => ?_)
  refine c_run tt_ok (ct := []) trivial k_cpu_machine_gcall [] 60 (by kernel_rfl) ?_
  refine c_ways tt_ok (ct := []) trivial k_cpu_machine_gcall rfl rfl ?_
  repeat' (first | exact trivial | (refine And.intro ?_ ?_) | (refine fun _ => ?_))
  all_goals
    refine e_run tt_ok (ct := []) trivial k_cpu_machine_gcall [] 60 (by kernel_rfl) ?_
    exact fin_ke tt_ok (rs := rs_cpu_machine_gcall) rfl rfl hK [0, 1, 2] rfl rfl rfl rfl rfl rfl

noncomputable abbrev eMgcall : Ent := .st (conS (P := Tryz.prog) (f := f_cpu_machine_gcall) fun cargs σ0 => match cargs, σ0 with
  | [.s (.loc 0 0)], [.blk 67 cs, .blk 63 [.sl 2 0 n n'], .own 5 1 c xs] => withMach cs fun k e hk => some ⟨.ex Ram fun m => .ask (n = m.l.length ∧ n' = m.l.length ∧ c = m.l.length ∧ xs = bytesI m.l)
      (.ret (.tup []) (Mach.mk (k.gcall) e m).chunks), fun K h => by
      obtain ⟨m, ⟨e1, e2, e3, e4⟩, h⟩ := h
      subst e1; subst e2; subst e3; subst e4; subst hk
      exact mgcall_c ⟨k, e, m⟩  K h⟩
  | _, _ => none)

def Core.gajw (k : Core) : Core := { k with a := k.wptr, wptr := bits .andNot .i32 k.a 3 }
theorem mgajw_c (x : Mach)  : Con Tryz.prog f_cpu_machine_gajw [.s (.loc 0 0)] x.chunks (.ret (.tup []) (Mach.mk (x.k.gajw) x.e x.m).chunks) := by
  obtain ⟨k, e, m⟩ := x
  intro K hK
  refine enter fn_cpu_machine_gajw rfl nt_cpu_machine_gajw rfl rfl (fun φ w0 β0 F => ?_)
  refine c_run tt_ok (ct := []) trivial k_cpu_machine_gajw [] 60 (by kernel_rfl) ?_
  refine c_ways tt_ok (ct := []) trivial k_cpu_machine_gajw rfl rfl ?_
  repeat' (first | exact trivial | (refine And.intro ?_ ?_) | (refine fun _ => ?_))
  all_goals
    refine e_run tt_ok (ct := []) trivial k_cpu_machine_gajw [] 60 (by kernel_rfl) ?_
    exact fin_ke tt_ok (rs := rs_cpu_machine_gajw) rfl rfl hK [0, 1, 2] rfl rfl rfl rfl rfl rfl

noncomputable abbrev eMgajw : Ent := .st (conS (P := Tryz.prog) (f := f_cpu_machine_gajw) fun cargs σ0 => match cargs, σ0 with
  | [.s (.loc 0 0)], [.blk 67 cs, .blk 63 [.sl 2 0 n n'], .own 5 1 c xs] => withMach cs fun k e hk => some ⟨.ex Ram fun m => .ask (n = m.l.length ∧ n' = m.l.length ∧ c = m.l.length ∧ xs = bytesI m.l)
      (.ret (.tup []) (Mach.mk (k.gajw) e m).chunks), fun K h => by
      obtain ⟨m, ⟨e1, e2, e3, e4⟩, h⟩ := h
      subst e1; subst e2; subst e3; subst e4; subst hk
      exact mgajw_c ⟨k, e, m⟩  K h⟩
  | _, _ => none)

def Core.seterr (k : Core) : Core := { k with err := true }
theorem mseterr_c (x : Mach)  : Con Tryz.prog f_cpu_machine_seterr [.s (.loc 0 0)] x.chunks (.ret (.tup []) (Mach.mk (x.k.seterr) x.e x.m).chunks) := by
  obtain ⟨k, e, m⟩ := x
  intro K hK
  refine enter fn_cpu_machine_seterr rfl nt_cpu_machine_seterr rfl rfl (fun φ w0 β0 F => ?_)
  refine c_run tt_ok (ct := []) trivial k_cpu_machine_seterr [] 60 (by kernel_rfl) ?_
  exact fin_ke tt_ok (rs := rs_cpu_machine_seterr) rfl rfl hK [0, 1, 2] rfl rfl rfl rfl rfl rfl

noncomputable abbrev eMseterr : Ent := .st (conS (P := Tryz.prog) (f := f_cpu_machine_seterr) fun cargs σ0 => match cargs, σ0 with
  | [.s (.loc 0 0)], [.blk 67 cs, .blk 63 [.sl 2 0 n n'], .own 5 1 c xs] => withMach cs fun k e hk => some ⟨.ex Ram fun m => .ask (n = m.l.length ∧ n' = m.l.length ∧ c = m.l.length ∧ xs = bytesI m.l)
      (.ret (.tup []) (Mach.mk (k.seterr) e m).chunks), fun K h => by
      obtain ⟨m, ⟨e1, e2, e3, e4⟩, h⟩ := h
      subst e1; subst e2; subst e3; subst e4; subst hk
      exact mseterr_c ⟨k, e, m⟩  K h⟩
  | _, _ => none)

def Core.clrh (k : Core) : Core := { k with hoe := false }
theorem mclrh_c (x : Mach)  : Con Tryz.prog f_cpu_machine_clrhalterr [.s (.loc 0 0)] x.chunks (.ret (.tup []) (Mach.mk (x.k.clrh) x.e x.m).chunks) := by
  obtain ⟨k, e, m⟩ := x
  intro K hK
  refine enter fn_cpu_machine_clrhalterr rfl nt_cpu_machine_clrhalterr rfl rfl (fun φ w0 β0 F => ?_)
  refine c_run tt_ok (ct := []) trivial k_cpu_machine_clrhalterr [] 60 (by kernel_rfl) ?_
  exact fin_ke tt_ok (rs := rs_cpu_machine_clrhalterr) rfl rfl hK [0, 1, 2] rfl rfl rfl rfl rfl rfl

noncomputable abbrev eMclrh : Ent := .st (conS (P := Tryz.prog) (f := f_cpu_machine_clrhalterr) fun cargs σ0 => match cargs, σ0 with
  | [.s (.loc 0 0)], [.blk 67 cs, .blk 63 [.sl 2 0 n n'], .own 5 1 c xs] => withMach cs fun k e hk => some ⟨.ex Ram fun m => .ask (n = m.l.length ∧ n' = m.l.length ∧ c = m.l.length ∧ xs = bytesI m.l)
      (.ret (.tup []) (Mach.mk (k.clrh) e m).chunks), fun K h => by
      obtain ⟨m, ⟨e1, e2, e3, e4⟩, h⟩ := h
      subst e1; subst e2; subst e3; subst e4; subst hk
      exact mclrh_c ⟨k, e, m⟩  K h⟩
  | _, _ => none)

def Core.seth (k : Core) : Core := { k with hoe := true }
theorem mseth_c (x : Mach)  : Con Tryz.prog f_cpu_machine_sethalterr [.s (.loc 0 0)] x.chunks (.ret (.tup []) (Mach.mk (x.k.seth) x.e x.m).chunks) := by
  obtain ⟨k, e, m⟩ := x
  intro K hK
  refine enter fn_cpu_machine_sethalterr rfl nt_cpu_machine_sethalterr rfl rfl (fun φ w0 β0 F => ?_)
  refine c_run tt_ok (ct := []) trivial k_cpu_machine_sethalterr [] 60 (by kernel_rfl) ?_
  exact fin_ke tt_ok (rs := rs_cpu_machine_sethalterr) rfl rfl hK [0, 1, 2] rfl rfl rfl rfl rfl rfl

noncomputable abbrev eMseth : Ent := .st (conS (P := Tryz.prog) (f := f_cpu_machine_sethalterr) fun cargs σ0 => match cargs, σ0 with
  | [.s (.loc 0 0)], [.blk 67 cs, .blk 63 [.sl 2 0 n n'], .own 5 1 c xs] => withMach cs fun k e hk => some ⟨.ex Ram fun m => .ask (n = m.l.length ∧ n' = m.l.length ∧ c = m.l.length ∧ xs = bytesI m.l)
      (.ret (.tup []) (Mach.mk (k.seth) e m).chunks), fun K h => by
      obtain ⟨m, ⟨e1, e2, e3, e4⟩, h⟩ := h
      subst e1; subst e2; subst e3; subst e4; subst hk
      exact mseth_c ⟨k, e, m⟩  K h⟩
  | _, _ => none)

end Go.Proofs

namespace Go.Proofs
open Go Go.Sx
set_option maxRecDepth 10000

theorem con_given {P : Program} {f : FuncId} {args : List TV} {σ : List Ch} {p : Prop} {o : Out} (h : Con P f args σ (.ask p o)) (hp : p) : Con P f args σ o := fun K hk => h K ⟨hp, hk⟩
def dvQ (a b c : Int) : Int := bif lgDivO a c then 0 else lgDiv a b c
def dvR (a b c : Int) : Int := bif lgDivO a c then 0 else lgRem a b c
theorem lDiv_c (a b c : Int) : Con Tryz.prog f_long_Div [.s (.int .i32 a), .s (.int .i32 b), .s (.int .i32 c)] [] (.ret (.tup [.s (.int .i32 (dvQ a b c)), .s (.int .i32 (dvR a b c)), .s (.bool (lgDivO a c))]) []) := by
  intro K hK
  refine L2.Div_c a b c K ⟨fun h => ?_, fun h => ?_⟩
  · unfold dvQ dvR at hK; rw [h] at hK; exact hK
  · unfold dvQ dvR at hK; rw [h] at hK; exact hK
theorem lRDiv_c (a b c : Int) (h1 : I32 a) (h2 : I32 b) (h3 : I32 c) : Con Tryz.prog f_r02_Div [.s (.int .i32 a), .s (.int .i32 b), .s (.int .i32 c)] [] (.ret (.tup [.s (.int .i32 (dvQ a b c)), .s (.int .i32 (dvR a b c)), .s (.bool (lgDivO a c))]) []) := by
  intro K hK
  refine L2.RDiv_c a b c h1 h2 h3 K ⟨fun h => ?_, fun h => ?_⟩
  · unfold dvQ dvR at hK; rw [h] at hK; exact hK
  · unfold dvQ dvR at hK; rw [h] at hK; exact hK

def spLSum : List TV → Option (Prop × FV)
  | [.s (.int .i32 a), .s (.int .i32 b), .s (.int .i32 c)] => some (True, .tup [.s (.int .i32 (lgSum a b c)), .s (.int .i32 (lgSumC a b c))])
  | _ => none
theorem ceLSum : CEok Tryz.prog f_long_Sum spLSum := ⟨cal_long_Sum, fun args p v h hp => by
  unfold spLSum at h; split at h
  · cases h; exact (L2.Sum_c _ _ _).pure
  · cases h⟩

def spLDiff : List TV → Option (Prop × FV)
  | [.s (.int .i32 a), .s (.int .i32 b), .s (.int .i32 c)] => some (True, .tup [.s (.int .i32 (lgDiff a b c)), .s (.int .i32 (lgDiffC a b c))])
  | _ => none
theorem ceLDiff : CEok Tryz.prog f_long_Diff spLDiff := ⟨cal_long_Diff, fun args p v h hp => by
  unfold spLDiff at h; split at h
  · cases h; exact (L2.Diff_c _ _ _).pure
  · cases h⟩

def spLMul : List TV → Option (Prop × FV)
  | [.s (.int .i32 a), .s (.int .i32 b), .s (.int .i32 c)] => some (True, .tup [.s (.int .i32 (lgMul a b c)), .s (.int .i32 (lgMulH a b c))])
  | _ => none
theorem ceLMul : CEok Tryz.prog f_long_Mul spLMul := ⟨cal_long_Mul, fun args p v h hp => by
  unfold spLMul at h; split at h
  · cases h; exact (L2.Mul_c _ _ _).pure
  · cases h⟩

def spLShl : List TV → Option (Prop × FV)
  | [.s (.int .i32 a), .s (.int .i32 b), .s (.int .i32 c)] => some (True, .tup [.s (.int .i32 (lgShlH a b c)), .s (.int .i32 (lgShl a b c))])
  | _ => none
theorem ceLShl : CEok Tryz.prog f_long_Shl spLShl := ⟨cal_long_Shl, fun args p v h hp => by
  unfold spLShl at h; split at h
  · cases h; exact (L2.Shl_c _ _ _).pure
  · cases h⟩

def spLShr : List TV → Option (Prop × FV)
  | [.s (.int .i32 a), .s (.int .i32 b), .s (.int .i32 c)] => some (True, .tup [.s (.int .i32 (lgShrH a b c)), .s (.int .i32 (lgShr a b c))])
  | _ => none
theorem ceLShr : CEok Tryz.prog f_long_Shr spLShr := ⟨cal_long_Shr, fun args p v h hp => by
  unfold spLShr at h; split at h
  · cases h; exact (L2.Shr_c _ _ _).pure
  · cases h⟩

def spLAdd : List TV → Option (Prop × FV)
  | [.s (.int .i32 a), .s (.int .i32 b), .s (.int .i32 c)] => some (I32 a ∧ I32 b, .tup [.s (.int .i32 (lgAdd a b c)), .s (.bool (lgAddO a b c))])
  | _ => none
theorem ceLAdd : CEok Tryz.prog f_long_Add spLAdd := ⟨cal_long_Add, fun args p v h hp => by
  unfold spLAdd at h; split at h
  · cases h; exact (con_given (L2.Add_c _ _ _) hp).pure
  · cases h⟩

def spLSub : List TV → Option (Prop × FV)
  | [.s (.int .i32 a), .s (.int .i32 b), .s (.int .i32 c)] => some (I32 a ∧ I32 b, .tup [.s (.int .i32 (lgSub a b c)), .s (.bool (lgSubO a b c))])
  | _ => none
theorem ceLSub : CEok Tryz.prog f_long_Sub spLSub := ⟨cal_long_Sub, fun args p v h hp => by
  unfold spLSub at h; split at h
  · cases h; exact (con_given (L2.Sub_c _ _ _) hp).pure
  · cases h⟩

def spLDiv : List TV → Option (Prop × FV)
  | [.s (.int .i32 a), .s (.int .i32 b), .s (.int .i32 c)] => some (True, .tup [.s (.int .i32 (dvQ a b c)), .s (.int .i32 (dvR a b c)), .s (.bool (lgDivO a c))])
  | _ => none
theorem ceLDiv : CEok Tryz.prog f_long_Div spLDiv := ⟨cal_long_Div, fun args p v h hp => by
  unfold spLDiv at h; split at h
  · cases h; exact (lDiv_c _ _ _).pure
  · cases h⟩

def spLXdble : List TV → Option (Prop × FV)
  | [.s (.int .i32 a)] => some (I32 a, .tup [.s (.int .i32 (a)), .s (.int .i32 (lgSign a))])
  | _ => none
theorem ceLXdble : CEok Tryz.prog f_long_Xdble spLXdble := ⟨cal_long_Xdble, fun args p v h hp => by
  unfold spLXdble at h; split at h
  · cases h; exact (con_given (L2.Xdble_c _) hp).pure
  · cases h⟩

def spLCsngl : List TV → Option (Prop × FV)
  | [.s (.int .i32 a), .s (.int .i32 b)] => some (I32 a, .tup [.s (.int .i32 (a)), .s (.bool (b != lgSign a))])
  | _ => none
theorem ceLCsngl : CEok Tryz.prog f_long_Csngl spLCsngl := ⟨cal_long_Csngl, fun args p v h hp => by
  unfold spLCsngl at h; split at h
  · cases h; exact (L2.Csngl_c _ _ hp).pure
  · cases h⟩

def spLNorm : List TV → Option (Prop × FV)
  | [.s (.int .i32 a), .s (.int .i32 b)] => some (True, .tup [.s (.int .i32 (lgNormH a b)), .s (.int .i32 (lgNorm a b)), .s (.int .i32 (lzN (Dv a b)))])
  | _ => none
theorem ceLNorm : CEok Tryz.prog f_long_Norm spLNorm := ⟨cal_long_Norm, fun args p v h hp => by
  unfold spLNorm at h; split at h
  · cases h; exact (L2.Norm_c _ _).pure
  · cases h⟩

def spRSum : List TV → Option (Prop × FV)
  | [.s (.int .i32 a), .s (.int .i32 b), .s (.int .i32 c)] => some (I32 a ∧ I32 b ∧ I32 c, .tup [.s (.int .i32 (lgSum a b c)), .s (.int .i32 (lgSumC a b c))])
  | _ => none
theorem ceRSum : CEok Tryz.prog f_r02_Sum spRSum := ⟨cal_r02_Sum, fun args p v h hp => by
  unfold spRSum at h; split at h
  · cases h; exact (L2.RSum_c _ _ _ hp.1 hp.2.1 hp.2.2).pure
  · cases h⟩

def spRDiff : List TV → Option (Prop × FV)
  | [.s (.int .i32 a), .s (.int .i32 b), .s (.int .i32 c)] => some (I32 a ∧ I32 b ∧ I32 c, .tup [.s (.int .i32 (lgDiff a b c)), .s (.int .i32 (lgDiffC a b c))])
  | _ => none
theorem ceRDiff : CEok Tryz.prog f_r02_Diff spRDiff := ⟨cal_r02_Diff, fun args p v h hp => by
  unfold spRDiff at h; split at h
  · cases h; exact (L2.RDiff_c _ _ _ hp.1 hp.2.1 hp.2.2).pure
  · cases h⟩

def spRMul : List TV → Option (Prop × FV)
  | [.s (.int .i32 a), .s (.int .i32 b), .s (.int .i32 c)] => some (I32 a ∧ I32 b ∧ I32 c, .tup [.s (.int .i32 (lgMul a b c)), .s (.int .i32 (lgMulH a b c))])
  | _ => none
theorem ceRMul : CEok Tryz.prog f_r02_Mul spRMul := ⟨cal_r02_Mul, fun args p v h hp => by
  unfold spRMul at h; split at h
  · cases h; exact (L2.RMul_c _ _ _ hp.1 hp.2.1 hp.2.2).pure
  · cases h⟩

def spRShl : List TV → Option (Prop × FV)
  | [.s (.int .i32 a), .s (.int .i32 b), .s (.int .i32 c)] => some (I32 a ∧ I32 b ∧ I32 c, .tup [.s (.int .i32 (lgShlH a b c)), .s (.int .i32 (lgShl a b c))])
  | _ => none
theorem ceRShl : CEok Tryz.prog f_r02_Shl spRShl := ⟨cal_r02_Shl, fun args p v h hp => by
  unfold spRShl at h; split at h
  · cases h; exact (L2.RShl_c _ _ _ hp.1 hp.2.1 hp.2.2).pure
  · cases h⟩

def spRShr : List TV → Option (Prop × FV)
  | [.s (.int .i32 a), .s (.int .i32 b), .s (.int .i32 c)] => some (I32 a ∧ I32 b ∧ I32 c, .tup [.s (.int .i32 (lgShrH a b c)), .s (.int .i32 (lgShr a b c))])
  | _ => none
theorem ceRShr : CEok Tryz.prog f_r02_Shr spRShr := ⟨cal_r02_Shr, fun args p v h hp => by
  unfold spRShr at h; split at h
  · cases h; exact (L2.RShr_c _ _ _ hp.1 hp.2.1 hp.2.2).pure
  · cases h⟩

def spRAdd : List TV → Option (Prop × FV)
  | [.s (.int .i32 a), .s (.int .i32 b), .s (.int .i32 c)] => some (I32 a ∧ I32 b ∧ I32 c, .tup [.s (.int .i32 (lgAdd a b c)), .s (.bool (lgAddO a b c))])
  | _ => none
theorem ceRAdd : CEok Tryz.prog f_r02_Add spRAdd := ⟨cal_r02_Add, fun args p v h hp => by
  unfold spRAdd at h; split at h
  · cases h; exact (L2.RAdd_c _ _ _ hp.1 hp.2.1 hp.2.2).pure
  · cases h⟩

def spRSub : List TV → Option (Prop × FV)
  | [.s (.int .i32 a), .s (.int .i32 b), .s (.int .i32 c)] => some (I32 a ∧ I32 b ∧ I32 c, .tup [.s (.int .i32 (lgSub a b c)), .s (.bool (lgSubO a b c))])
  | _ => none
theorem ceRSub : CEok Tryz.prog f_r02_Sub spRSub := ⟨cal_r02_Sub, fun args p v h hp => by
  unfold spRSub at h; split at h
  · cases h; exact (L2.RSub_c _ _ _ hp.1 hp.2.1 hp.2.2).pure
  · cases h⟩

def spRDiv : List TV → Option (Prop × FV)
  | [.s (.int .i32 a), .s (.int .i32 b), .s (.int .i32 c)] => some (I32 a ∧ I32 b ∧ I32 c, .tup [.s (.int .i32 (dvQ a b c)), .s (.int .i32 (dvR a b c)), .s (.bool (lgDivO a c))])
  | _ => none
theorem ceRDiv : CEok Tryz.prog f_r02_Div spRDiv := ⟨cal_r02_Div, fun args p v h hp => by
  unfold spRDiv at h; split at h
  · cases h; exact (lRDiv_c _ _ _ hp.1 hp.2.1 hp.2.2).pure
  · cases h⟩

def spRXdble : List TV → Option (Prop × FV)
  | [.s (.int .i32 a)] => some (True, .tup [.s (.int .i32 (a)), .s (.int .i32 (lgSign a))])
  | _ => none
theorem ceRXdble : CEok Tryz.prog f_r02_Xdble spRXdble := ⟨cal_r02_Xdble, fun args p v h hp => by
  unfold spRXdble at h; split at h
  · cases h; exact (L2.RXdble_c _).pure
  · cases h⟩

def spRCsngl : List TV → Option (Prop × FV)
  | [.s (.int .i32 a), .s (.int .i32 b)] => some (True, .tup [.s (.int .i32 (a)), .s (.bool (b != lgSign a))])
  | _ => none
theorem ceRCsngl : CEok Tryz.prog f_r02_Csngl spRCsngl := ⟨cal_r02_Csngl, fun args p v h hp => by
  unfold spRCsngl at h; split at h
  · cases h; exact (L2.RCsngl_c _ _).pure
  · cases h⟩

def spRNorm : List TV → Option (Prop × FV)
  | [.s (.int .i32 a), .s (.int .i32 b)] => some (I32 a ∧ I32 b, .tup [.s (.int .i32 (lgNormH a b)), .s (.int .i32 (lgNorm a b)), .s (.int .i32 (lzN (Dv a b)))])
  | _ => none
theorem ceRNorm : CEok Tryz.prog f_r02_Norm spRNorm := ⟨cal_r02_Norm, fun args p v h hp => by
  unfold spRNorm at h; split at h
  · cases h; exact (L2.RNorm_c _ _ hp.1 hp.2).pure
  · cases h⟩

end Go.Proofs

namespace Go.Proofs
open Go Go.Sx
set_option maxRecDepth 10000
def trI (b : Bool) : Int := bif b then 1 else 0
theorem truth_c (b : Bool) : Con Tryz.prog f_cpu_truth [.s (.bool b)] [] (.ret (.t (.s (.int .i32 (trI b)))) []) := by
  intro K hK
  refine enter fn_cpu_truth rfl nt_cpu_truth rfl rfl (fun φ w0 β0 F => ?_)
  refine c_run tt_ok (ct := []) trivial k_cpu_truth [] 60 (by kernel_rfl) ?_
  refine ⟨fun h => ?_, fun h => ?_⟩
  · rw [show trI b = 1 by rw [show b = true from h]; rfl] at hK
    exact fin_k tt_ok (rs := rs_cpu_truth) rfl rfl hK [] rfl rfl rfl rfl rfl rfl
  · rw [show trI b = 0 by rw [show b = false from h]; rfl] at hK
    exact fin_k tt_ok (rs := rs_cpu_truth) rfl rfl hK [] rfl rfl rfl rfl rfl rfl
def spTruth : List TV → Option (Prop × FV)
  | [.s (.bool b)] => some (True, .t (.s (.int .i32 (trI b))))
  | _ => none
theorem ceTruth : CEok Tryz.prog f_cpu_truth spTruth := ⟨cal_cpu_truth, fun args p v h hp => by
  unfold spTruth at h; split at h
  · cases h; exact (truth_c _).pure
  · cases h⟩
noncomputable abbrev ctOp : CT := [(f_cpu_truth, .pure spTruth), (f_cpu_machine_push, eMpush), (f_cpu_machine_pop, eMpop), (f_cpu_machine_check, eMcheck), (f_mem_Bcnt, in_mem_Bcnt []), (f_mem_Wcnt, in_mem_Wcnt []),
  (f_long_Add, .pure spLAdd), (f_long_Sub, .pure spLSub), (f_long_Sum, .pure spLSum), (f_long_Diff, .pure spLDiff), (f_long_Mul, .pure spLMul), (f_long_Div, .pure spLDiv), (f_long_Shl, .pure spLShl), (f_long_Shr, .pure spLShr), (f_long_Norm, .pure spLNorm), (f_long_Xdble, .pure spLXdble), (f_long_Csngl, .pure spLCsngl)]
theorem ctOp_ok : CTok Tryz.prog ctOp := ⟨ceTruth, con_ok cal_cpu_machine_push _, con_ok cal_cpu_machine_pop _, con_ok cal_cpu_machine_check _, in_mem_Bcnt_ok (ct := []) trivial, in_mem_Wcnt_ok (ct := []) trivial,
  ceLAdd, ceLSub, ceLSum, ceLDiff, ceLMul, ceLDiv, ceLShl, ceLShr, ceLNorm, ceLXdble, ceLCsngl, trivial⟩

def Core.o_bcnt (k : Core) : Core := { k with a := IntKind.i32.wrap (4 * k.a) }
theorem o_bcnt_c (x : Mach) : Con Tryz.prog f_cpu_machine_bcnt [.s (.loc 0 0)] x.chunks (.ret (.tup []) (Mach.mk x.k.o_bcnt x.e x.m).chunks) := by
  obtain ⟨k, e, m⟩ := x
  intro K hK
  refine enter fn_cpu_machine_bcnt rfl nt_cpu_machine_bcnt rfl rfl (fun φ w0 β0 F => ?_)
  refine c_run tt_ok ctOp_ok k_cpu_machine_bcnt [] 60 (by kernel_rfl) ?_
  exact fin_ke tt_ok (rs := rs_cpu_machine_bcnt) rfl rfl hK [0, 1, 2] rfl rfl rfl rfl rfl rfl

noncomputable abbrev eObcnt : Ent := .st (conS (P := Tryz.prog) (f := f_cpu_machine_bcnt) fun cargs σ0 => match cargs, σ0 with
  | [.s (.loc 0 0)], [.blk 67 cs, .blk 63 [.sl 2 0 n n'], .own 5 1 c xs] => withMach cs fun k e hk => some ⟨.ex Ram fun m => .ask (n = m.l.length ∧ n' = m.l.length ∧ c = m.l.length ∧ xs = bytesI m.l)
      (.ret (.tup []) (Mach.mk k.o_bcnt e m).chunks), fun K h => by
      obtain ⟨m, ⟨e1, e2, e3, e4⟩, h⟩ := h
      subst e1; subst e2; subst e3; subst e4; subst hk
      exact o_bcnt_c ⟨k, e, m⟩  K h⟩
  | _, _ => none)

def Core.o_wcnt (k : Core) : Core := { k with c := k.b, a := k.a.fdiv (2 ^ min 2 IntKind.i32.bits), b := bits .and .i32 k.a 3 }
theorem o_wcnt_c (x : Mach) : Con Tryz.prog f_cpu_machine_wcnt [.s (.loc 0 0)] x.chunks (.ret (.tup []) (Mach.mk x.k.o_wcnt x.e x.m).chunks) := by
  obtain ⟨k, e, m⟩ := x
  intro K hK
  refine enter fn_cpu_machine_wcnt rfl nt_cpu_machine_wcnt rfl rfl (fun φ w0 β0 F => ?_)
  refine c_run tt_ok ctOp_ok k_cpu_machine_wcnt [] 60 (by kernel_rfl) ?_
  exact fin_ke tt_ok (rs := rs_cpu_machine_wcnt) rfl rfl hK [0, 1, 2] rfl rfl rfl rfl rfl rfl

noncomputable abbrev eOwcnt : Ent := .st (conS (P := Tryz.prog) (f := f_cpu_machine_wcnt) fun cargs σ0 => match cargs, σ0 with
  | [.s (.loc 0 0)], [.blk 67 cs, .blk 63 [.sl 2 0 n n'], .own 5 1 c xs] => withMach cs fun k e hk => some ⟨.ex Ram fun m => .ask (n = m.l.length ∧ n' = m.l.length ∧ c = m.l.length ∧ xs = bytesI m.l)
      (.ret (.tup []) (Mach.mk k.o_wcnt e m).chunks), fun K h => by
      obtain ⟨m, ⟨e1, e2, e3, e4⟩, h⟩ := h
      subst e1; subst e2; subst e3; subst e4; subst hk
      exact o_wcnt_c ⟨k, e, m⟩  K h⟩
  | _, _ => none)

def Core.o_mint (k : Core) : Core := k.push (-2147483648)
theorem o_mint_c (x : Mach) : Con Tryz.prog f_cpu_machine_mint [.s (.loc 0 0)] x.chunks (.ret (.tup []) (Mach.mk x.k.o_mint x.e x.m).chunks) := by
  obtain ⟨k, e, m⟩ := x
  intro K hK
  refine enter fn_cpu_machine_mint rfl nt_cpu_machine_mint rfl rfl (fun φ w0 β0 F => ?_)
  refine c_run tt_ok ctOp_ok k_cpu_machine_mint [] 60 (by kernel_rfl) ?_
  refine ⟨m, ⟨rfl, rfl, rfl, rfl⟩, ?_⟩
  exact fin_ke tt_ok (rs := rs_cpu_machine_mint) rfl rfl hK [0, 1, 2] rfl rfl rfl rfl rfl rfl

noncomputable abbrev eOmint : Ent := .st (conS (P := Tryz.prog) (f := f_cpu_machine_mint) fun cargs σ0 => match cargs, σ0 with
  | [.s (.loc 0 0)], [.blk 67 cs, .blk 63 [.sl 2 0 n n'], .own 5 1 c xs] => withMach cs fun k e hk => some ⟨.ex Ram fun m => .ask (n = m.l.length ∧ n' = m.l.length ∧ c = m.l.length ∧ xs = bytesI m.l)
      (.ret (.tup []) (Mach.mk k.o_mint e m).chunks), fun K h => by
      obtain ⟨m, ⟨e1, e2, e3, e4⟩, h⟩ := h
      subst e1; subst e2; subst e3; subst e4; subst hk
      exact o_mint_c ⟨k, e, m⟩  K h⟩
  | _, _ => none)

def Core.o_ladd (k : Core) : Core := ({ k with a := lgAdd k.b k.a k.c }).check (lgAddO k.b k.a k.c)
theorem o_ladd_c (x : Mach) (hok : x.k.ok) : Con Tryz.prog f_cpu_machine_ladd [.s (.loc 0 0)] x.chunks (.ret (.tup []) (Mach.mk x.k.o_ladd x.e x.m).chunks) := by
  obtain ⟨k, e, m⟩ := x
  intro K hK
  refine enter fn_cpu_machine_ladd rfl nt_cpu_machine_ladd rfl rfl (fun φ w0 β0 F => ?_)
  refine c_run tt_ok ctOp_ok k_cpu_machine_ladd [] 60 (by kernel_rfl) ?_
  refine ⟨⟨hok.b, hok.a⟩, m, ⟨rfl, rfl, rfl, rfl⟩, ?_⟩
  exact fin_ke tt_ok (rs := rs_cpu_machine_ladd) rfl rfl hK [0, 1, 2] rfl rfl rfl rfl rfl rfl

noncomputable abbrev eOladd : Ent := .st (conS (P := Tryz.prog) (f := f_cpu_machine_ladd) fun cargs σ0 => match cargs, σ0 with
  | [.s (.loc 0 0)], [.blk 67 cs, .blk 63 [.sl 2 0 n n'], .own 5 1 c xs] => withMach cs fun k e hk => some ⟨.ex Ram fun m => .ask (n = m.l.length ∧ n' = m.l.length ∧ c = m.l.length ∧ xs = bytesI m.l ∧ k.ok)
      (.ret (.tup []) (Mach.mk k.o_ladd e m).chunks), fun K h => by
      obtain ⟨m, ⟨e1, e2, e3, e4, h1⟩, h⟩ := h
      subst e1; subst e2; subst e3; subst e4; subst hk
      exact o_ladd_c ⟨k, e, m⟩ h1 K h⟩
  | _, _ => none)

def Core.o_lsub (k : Core) : Core := ({ k with a := lgSub k.b k.a k.c }).check (lgSubO k.b k.a k.c)
theorem o_lsub_c (x : Mach) (hok : x.k.ok) : Con Tryz.prog f_cpu_machine_lsub [.s (.loc 0 0)] x.chunks (.ret (.tup []) (Mach.mk x.k.o_lsub x.e x.m).chunks) := by
  obtain ⟨k, e, m⟩ := x
  intro K hK
  refine enter fn_cpu_machine_lsub rfl nt_cpu_machine_lsub rfl rfl (fun φ w0 β0 F => ?_)
  refine c_run tt_ok ctOp_ok k_cpu_machine_lsub [] 60 (by kernel_rfl) ?_
  refine ⟨⟨hok.b, hok.a⟩, m, ⟨rfl, rfl, rfl, rfl⟩, ?_⟩
  exact fin_ke tt_ok (rs := rs_cpu_machine_lsub) rfl rfl hK [0, 1, 2] rfl rfl rfl rfl rfl rfl

noncomputable abbrev eOlsub : Ent := .st (conS (P := Tryz.prog) (f := f_cpu_machine_lsub) fun cargs σ0 => match cargs, σ0 with
  | [.s (.loc 0 0)], [.blk 67 cs, .blk 63 [.sl 2 0 n n'], .own 5 1 c xs] => withMach cs fun k e hk => some ⟨.ex Ram fun m => .ask (n = m.l.length ∧ n' = m.l.length ∧ c = m.l.length ∧ xs = bytesI m.l ∧ k.ok)
      (.ret (.tup []) (Mach.mk k.o_lsub e m).chunks), fun K h => by
      obtain ⟨m, ⟨e1, e2, e3, e4, h1⟩, h⟩ := h
      subst e1; subst e2; subst e3; subst e4; subst hk
      exact o_lsub_c ⟨k, e, m⟩ h1 K h⟩
  | _, _ => none)

def Core.o_ldiv (k : Core) : Core := ({ k with a := dvQ k.c k.b k.a, b := dvR k.c k.b k.a }).check (lgDivO k.c k.a)
theorem o_ldiv_c (x : Mach) : Con Tryz.prog f_cpu_machine_ldiv [.s (.loc 0 0)] x.chunks (.ret (.tup []) (Mach.mk x.k.o_ldiv x.e x.m).chunks) := by
  obtain ⟨k, e, m⟩ := x
  intro K hK
  refine enter fn_cpu_machine_ldiv rfl nt_cpu_machine_ldiv rfl rfl (fun φ w0 β0 F => ?_)
  refine c_run tt_ok ctOp_ok k_cpu_machine_ldiv [] 60 (by kernel_rfl) ?_
  refine ⟨trivial, m, ⟨rfl, rfl, rfl, rfl⟩, ?_⟩
  exact fin_ke tt_ok (rs := rs_cpu_machine_ldiv) rfl rfl hK [0, 1, 2] rfl rfl rfl rfl rfl rfl

noncomputable abbrev eOldiv : Ent := .st (conS (P := Tryz.prog) (f := f_cpu_machine_ldiv) fun cargs σ0 => match cargs, σ0 with
  | [.s (.loc 0 0)], [.blk 67 cs, .blk 63 [.sl 2 0 n n'], .own 5 1 c xs] => withMach cs fun k e hk => some ⟨.ex Ram fun m => .ask (n = m.l.length ∧ n' = m.l.length ∧ c = m.l.length ∧ xs = bytesI m.l)
      (.ret (.tup []) (Mach.mk k.o_ldiv e m).chunks), fun K h => by
      obtain ⟨m, ⟨e1, e2, e3, e4⟩, h⟩ := h
      subst e1; subst e2; subst e3; subst e4; subst hk
      exact o_ldiv_c ⟨k, e, m⟩  K h⟩
  | _, _ => none)

def Core.o_csngl (k : Core) : Core := ({ k with a := k.a, b := k.c }).check (k.b != lgSign k.a)
theorem o_csngl_c (x : Mach) (hok : x.k.ok) : Con Tryz.prog f_cpu_machine_csngl [.s (.loc 0 0)] x.chunks (.ret (.tup []) (Mach.mk x.k.o_csngl x.e x.m).chunks) := by
  obtain ⟨k, e, m⟩ := x
  intro K hK
  refine enter fn_cpu_machine_csngl rfl nt_cpu_machine_csngl rfl rfl (fun φ w0 β0 F => ?_)
  refine c_run tt_ok ctOp_ok k_cpu_machine_csngl [] 60 (by kernel_rfl) ?_
  refine ⟨hok.a, m, ⟨rfl, rfl, rfl, rfl⟩, ?_⟩
  exact fin_ke tt_ok (rs := rs_cpu_machine_csngl) rfl rfl hK [0, 1, 2] rfl rfl rfl rfl rfl rfl

noncomputable abbrev eOcsngl : Ent := .st (conS (P := Tryz.prog) (f := f_cpu_machine_csngl) fun cargs σ0 => match cargs, σ0 with
  | [.s (.loc 0 0)], [.blk 67 cs, .blk 63 [.sl 2 0 n n'], .own 5 1 c xs] => withMach cs fun k e hk => some ⟨.ex Ram fun m => .ask (n = m.l.length ∧ n' = m.l.length ∧ c = m.l.length ∧ xs = bytesI m.l ∧ k.ok)
      (.ret (.tup []) (Mach.mk k.o_csngl e m).chunks), fun K h => by
      obtain ⟨m, ⟨e1, e2, e3, e4, h1⟩, h⟩ := h
      subst e1; subst e2; subst e3; subst e4; subst hk
      exact o_csngl_c ⟨k, e, m⟩ h1 K h⟩
  | _, _ => none)

def Core.o_xdble (k : Core) : Core := { k with c := k.b, a := k.a, b := lgSign k.a }
theorem o_xdble_c (x : Mach) (hok : x.k.ok) : Con Tryz.prog f_cpu_machine_xdble [.s (.loc 0 0)] x.chunks (.ret (.tup []) (Mach.mk x.k.o_xdble x.e x.m).chunks) := by
  obtain ⟨k, e, m⟩ := x
  intro K hK
  refine enter fn_cpu_machine_xdble rfl nt_cpu_machine_xdble rfl rfl (fun φ w0 β0 F => ?_)
  refine c_run tt_ok ctOp_ok k_cpu_machine_xdble [] 60 (by kernel_rfl) ?_
  refine ⟨hok.a, ?_⟩
  exact fin_ke tt_ok (rs := rs_cpu_machine_xdble) rfl rfl hK [0, 1, 2] rfl rfl rfl rfl rfl rfl

noncomputable abbrev eOxdble : Ent := .st (conS (P := Tryz.prog) (f := f_cpu_machine_xdble) fun cargs σ0 => match cargs, σ0 with
  | [.s (.loc 0 0)], [.blk 67 cs, .blk 63 [.sl 2 0 n n'], .own 5 1 c xs] => withMach cs fun k e hk => some ⟨.ex Ram fun m => .ask (n = m.l.length ∧ n' = m.l.length ∧ c = m.l.length ∧ xs = bytesI m.l ∧ k.ok)
      (.ret (.tup []) (Mach.mk k.o_xdble e m).chunks), fun K h => by
      obtain ⟨m, ⟨e1, e2, e3, e4, h1⟩, h⟩ := h
      subst e1; subst e2; subst e3; subst e4; subst hk
      exact o_xdble_c ⟨k, e, m⟩ h1 K h⟩
  | _, _ => none)

def Core.o_lsum (k : Core) : Core := { k with a := lgSum k.b k.a k.c, b := lgSumC k.b k.a k.c }
theorem o_lsum_c (x : Mach) : Con Tryz.prog f_cpu_machine_lsum [.s (.loc 0 0)] x.chunks (.ret (.tup []) (Mach.mk x.k.o_lsum x.e x.m).chunks) := by
  obtain ⟨k, e, m⟩ := x
  intro K hK
  refine enter fn_cpu_machine_lsum rfl nt_cpu_machine_lsum rfl rfl (fun φ w0 β0 F => ?_)
  refine c_run tt_ok ctOp_ok k_cpu_machine_lsum [] 60 (by kernel_rfl) ?_
  refine c_ways tt_ok ctOp_ok k_cpu_machine_lsum rfl rfl ?_
  repeat' (first | exact trivial | (refine ⟨trivial, ?_⟩)  | (refine And.intro ?_ ?_) | (refine fun _ => ?_))
  all_goals
    refine e_run tt_ok ctOp_ok k_cpu_machine_lsum [] 60 (by kernel_rfl) ?_
    exact fin_ke tt_ok (rs := rs_cpu_machine_lsum) rfl rfl hK [0, 1, 2] rfl rfl rfl rfl rfl rfl

noncomputable abbrev eOlsum : Ent := .st (conS (P := Tryz.prog) (f := f_cpu_machine_lsum) fun cargs σ0 => match cargs, σ0 with
  | [.s (.loc 0 0)], [.blk 67 cs, .blk 63 [.sl 2 0 n n'], .own 5 1 c xs] => withMach cs fun k e hk => some ⟨.ex Ram fun m => .ask (n = m.l.length ∧ n' = m.l.length ∧ c = m.l.length ∧ xs = bytesI m.l)
      (.ret (.tup []) (Mach.mk k.o_lsum e m).chunks), fun K h => by
      obtain ⟨m, ⟨e1, e2, e3, e4⟩, h⟩ := h
      subst e1; subst e2; subst e3; subst e4; subst hk
      exact o_lsum_c ⟨k, e, m⟩  K h⟩
  | _, _ => none)

def Core.o_ldiff (k : Core) : Core := { k with a := lgDiff k.b k.a k.c, b := lgDiffC k.b k.a k.c }
theorem o_ldiff_c (x : Mach) : Con Tryz.prog f_cpu_machine_ldiff [.s (.loc 0 0)] x.chunks (.ret (.tup []) (Mach.mk x.k.o_ldiff x.e x.m).chunks) := by
  obtain ⟨k, e, m⟩ := x
  intro K hK
  refine enter fn_cpu_machine_ldiff rfl nt_cpu_machine_ldiff rfl rfl (fun φ w0 β0 F => ?_)
  refine c_run tt_ok ctOp_ok k_cpu_machine_ldiff [] 60 (by kernel_rfl) ?_
  refine c_ways tt_ok ctOp_ok k_cpu_machine_ldiff rfl rfl ?_
  repeat' (first | exact trivial | (refine ⟨trivial, ?_⟩)  | (refine And.intro ?_ ?_) | (refine fun _ => ?_))
  all_goals
    refine e_run tt_ok ctOp_ok k_cpu_machine_ldiff [] 60 (by kernel_rfl) ?_
    exact fin_ke tt_ok (rs := rs_cpu_machine_ldiff) rfl rfl hK [0, 1, 2] rfl rfl rfl rfl rfl rfl

noncomputable abbrev eOldiff : Ent := .st (conS (P := Tryz.prog) (f := f_cpu_machine_ldiff) fun cargs σ0 => match cargs, σ0 with
  | [.s (.loc 0 0)], [.blk 67 cs, .blk 63 [.sl 2 0 n n'], .own 5 1 c xs] => withMach cs fun k e hk => some ⟨.ex Ram fun m => .ask (n = m.l.length ∧ n' = m.l.length ∧ c = m.l.length ∧ xs = bytesI m.l)
      (.ret (.tup []) (Mach.mk k.o_ldiff e m).chunks), fun K h => by
      obtain ⟨m, ⟨e1, e2, e3, e4⟩, h⟩ := h
      subst e1; subst e2; subst e3; subst e4; subst hk
      exact o_ldiff_c ⟨k, e, m⟩  K h⟩
  | _, _ => none)

def Core.o_lmul (k : Core) : Core := { k with a := lgMul k.a k.b k.c, b := lgMulH k.a k.b k.c }
theorem o_lmul_c (x : Mach) : Con Tryz.prog f_cpu_machine_lmul [.s (.loc 0 0)] x.chunks (.ret (.tup []) (Mach.mk x.k.o_lmul x.e x.m).chunks) := by
  obtain ⟨k, e, m⟩ := x
  intro K hK
  refine enter fn_cpu_machine_lmul rfl nt_cpu_machine_lmul rfl rfl (fun φ w0 β0 F => ?_)
  refine c_run tt_ok ctOp_ok k_cpu_machine_lmul [] 60 (by kernel_rfl) ?_
  refine c_ways tt_ok ctOp_ok k_cpu_machine_lmul rfl rfl ?_
  repeat' (first | exact trivial | (refine ⟨trivial, ?_⟩)  | (refine And.intro ?_ ?_) | (refine fun _ => ?_))
  all_goals
    refine e_run tt_ok ctOp_ok k_cpu_machine_lmul [] 60 (by kernel_rfl) ?_
    exact fin_ke tt_ok (rs := rs_cpu_machine_lmul) rfl rfl hK [0, 1, 2] rfl rfl rfl rfl rfl rfl

noncomputable abbrev eOlmul : Ent := .st (conS (P := Tryz.prog) (f := f_cpu_machine_lmul) fun cargs σ0 => match cargs, σ0 with
  | [.s (.loc 0 0)], [.blk 67 cs, .blk 63 [.sl 2 0 n n'], .own 5 1 c xs] => withMach cs fun k e hk => some ⟨.ex Ram fun m => .ask (n = m.l.length ∧ n' = m.l.length ∧ c = m.l.length ∧ xs = bytesI m.l)
      (.ret (.tup []) (Mach.mk k.o_lmul e m).chunks), fun K h => by
      obtain ⟨m, ⟨e1, e2, e3, e4⟩, h⟩ := h
      subst e1; subst e2; subst e3; subst e4; subst hk
      exact o_lmul_c ⟨k, e, m⟩  K h⟩
  | _, _ => none)

def Core.o_lshl (k : Core) : Core := { k with b := lgShlH k.c k.b k.a, a := lgShl k.c k.b k.a }
theorem o_lshl_c (x : Mach) : Con Tryz.prog f_cpu_machine_lshl [.s (.loc 0 0)] x.chunks (.ret (.tup []) (Mach.mk x.k.o_lshl x.e x.m).chunks) := by
  obtain ⟨k, e, m⟩ := x
  intro K hK
  refine enter fn_cpu_machine_lshl rfl nt_cpu_machine_lshl rfl rfl (fun φ w0 β0 F => ?_)
  refine c_run tt_ok ctOp_ok k_cpu_machine_lshl [] 60 (by kernel_rfl) ?_
  refine c_ways tt_ok ctOp_ok k_cpu_machine_lshl rfl rfl ?_
  repeat' (first | exact trivial | (refine ⟨trivial, ?_⟩)  | (refine And.intro ?_ ?_) | (refine fun _ => ?_))
  all_goals
    refine e_run tt_ok ctOp_ok k_cpu_machine_lshl [] 60 (by kernel_rfl) ?_
    exact fin_ke tt_ok (rs := rs_cpu_machine_lshl) rfl rfl hK [0, 1, 2] rfl rfl rfl rfl rfl rfl

noncomputable abbrev eOlshl : Ent := .st (conS (P := Tryz.prog) (f := f_cpu_machine_lshl) fun cargs σ0 => match cargs, σ0 with
  | [.s (.loc 0 0)], [.blk 67 cs, .blk 63 [.sl 2 0 n n'], .own 5 1 c xs] => withMach cs fun k e hk => some ⟨.ex Ram fun m => .ask (n = m.l.length ∧ n' = m.l.length ∧ c = m.l.length ∧ xs = bytesI m.l)
      (.ret (.tup []) (Mach.mk k.o_lshl e m).chunks), fun K h => by
      obtain ⟨m, ⟨e1, e2, e3, e4⟩, h⟩ := h
      subst e1; subst e2; subst e3; subst e4; subst hk
      exact o_lshl_c ⟨k, e, m⟩  K h⟩
  | _, _ => none)

def Core.o_lshr (k : Core) : Core := { k with b := lgShrH k.c k.b k.a, a := lgShr k.c k.b k.a }
theorem o_lshr_c (x : Mach) : Con Tryz.prog f_cpu_machine_lshr [.s (.loc 0 0)] x.chunks (.ret (.tup []) (Mach.mk x.k.o_lshr x.e x.m).chunks) := by
  obtain ⟨k, e, m⟩ := x
  intro K hK
  refine enter fn_cpu_machine_lshr rfl nt_cpu_machine_lshr rfl rfl (fun φ w0 β0 F => ?_)
  refine c_run tt_ok ctOp_ok k_cpu_machine_lshr [] 60 (by kernel_rfl) ?_
  refine c_ways tt_ok ctOp_ok k_cpu_machine_lshr rfl rfl ?_
  repeat' (first | exact trivial | (refine ⟨trivial, ?_⟩)  | (refine And.intro ?_ ?_) | (refine fun _ => ?_))
  all_goals
    refine e_run tt_ok ctOp_ok k_cpu_machine_lshr [] 60 (by kernel_rfl) ?_
    exact fin_ke tt_ok (rs := rs_cpu_machine_lshr) rfl rfl hK [0, 1, 2] rfl rfl rfl rfl rfl rfl

noncomputable abbrev eOlshr : Ent := .st (conS (P := Tryz.prog) (f := f_cpu_machine_lshr) fun cargs σ0 => match cargs, σ0 with
  | [.s (.loc 0 0)], [.blk 67 cs, .blk 63 [.sl 2 0 n n'], .own 5 1 c xs] => withMach cs fun k e hk => some ⟨.ex Ram fun m => .ask (n = m.l.length ∧ n' = m.l.length ∧ c = m.l.length ∧ xs = bytesI m.l)
      (.ret (.tup []) (Mach.mk k.o_lshr e m).chunks), fun K h => by
      obtain ⟨m, ⟨e1, e2, e3, e4⟩, h⟩ := h
      subst e1; subst e2; subst e3; subst e4; subst hk
      exact o_lshr_c ⟨k, e, m⟩  K h⟩
  | _, _ => none)

def Core.o_norm (k : Core) : Core := { k with b := lgNormH k.b k.a, a := lgNorm k.b k.a, c := lzN (Dv k.b k.a) }
theorem o_norm_c (x : Mach) : Con Tryz.prog f_cpu_machine_norm [.s (.loc 0 0)] x.chunks (.ret (.tup []) (Mach.mk x.k.o_norm x.e x.m).chunks) := by
  obtain ⟨k, e, m⟩ := x
  intro K hK
  refine enter fn_cpu_machine_norm rfl nt_cpu_machine_norm rfl rfl (fun φ w0 β0 F => ?_)
  refine c_run tt_ok ctOp_ok k_cpu_machine_norm [] 60 (by kernel_rfl) ?_
  refine c_ways tt_ok ctOp_ok k_cpu_machine_norm rfl rfl ?_
  repeat' (first | exact trivial | (refine ⟨trivial, ?_⟩)  | (refine And.intro ?_ ?_) | (refine fun _ => ?_))
  all_goals
    refine e_run tt_ok ctOp_ok k_cpu_machine_norm [] 60 (by kernel_rfl) ?_
    exact fin_ke tt_ok (rs := rs_cpu_machine_norm) rfl rfl hK [0, 1, 2] rfl rfl rfl rfl rfl rfl

noncomputable abbrev eOnorm : Ent := .st (conS (P := Tryz.prog) (f := f_cpu_machine_norm) fun cargs σ0 => match cargs, σ0 with
  | [.s (.loc 0 0)], [.blk 67 cs, .blk 63 [.sl 2 0 n n'], .own 5 1 c xs] => withMach cs fun k e hk => some ⟨.ex Ram fun m => .ask (n = m.l.length ∧ n' = m.l.length ∧ c = m.l.length ∧ xs = bytesI m.l)
      (.ret (.tup []) (Mach.mk k.o_norm e m).chunks), fun K h => by
      obtain ⟨m, ⟨e1, e2, e3, e4⟩, h⟩ := h
      subst e1; subst e2; subst e3; subst e4; subst hk
      exact o_norm_c ⟨k, e, m⟩  K h⟩
  | _, _ => none)

def Core.o_testerr (k : Core) : Core := { k.push (trI (!k.err)) with err := false }
theorem o_testerr_c (x : Mach) : Con Tryz.prog f_cpu_machine_testerr [.s (.loc 0 0)] x.chunks (.ret (.tup []) (Mach.mk x.k.o_testerr x.e x.m).chunks) := by
  obtain ⟨k, e, m⟩ := x
  intro K hK
  refine enter fn_cpu_machine_testerr rfl nt_cpu_machine_testerr rfl rfl (fun φ w0 β0 F => ?_)
  refine c_run tt_ok ctOp_ok k_cpu_machine_testerr [] 60 (by kernel_rfl) ?_
  refine ⟨trivial, m, ⟨rfl, rfl, rfl, rfl⟩, ?_⟩
  exact fin_ke tt_ok (rs := rs_cpu_machine_testerr) rfl rfl hK [0, 1, 2] rfl rfl rfl rfl rfl rfl

noncomputable abbrev eOtesterr : Ent := .st (conS (P := Tryz.prog) (f := f_cpu_machine_testerr) fun cargs σ0 => match cargs, σ0 with
  | [.s (.loc 0 0)], [.blk 67 cs, .blk 63 [.sl 2 0 n n'], .own 5 1 c xs] => withMach cs fun k e hk => some ⟨.ex Ram fun m => .ask (n = m.l.length ∧ n' = m.l.length ∧ c = m.l.length ∧ xs = bytesI m.l)
      (.ret (.tup []) (Mach.mk k.o_testerr e m).chunks), fun K h => by
      obtain ⟨m, ⟨e1, e2, e3, e4⟩, h⟩ := h
      subst e1; subst e2; subst e3; subst e4; subst hk
      exact o_testerr_c ⟨k, e, m⟩  K h⟩
  | _, _ => none)

def Core.o_testhalterr (k : Core) : Core := k.push (trI k.hoe)
theorem o_testhalterr_c (x : Mach) : Con Tryz.prog f_cpu_machine_testhalterr [.s (.loc 0 0)] x.chunks (.ret (.tup []) (Mach.mk x.k.o_testhalterr x.e x.m).chunks) := by
  obtain ⟨k, e, m⟩ := x
  intro K hK
  refine enter fn_cpu_machine_testhalterr rfl nt_cpu_machine_testhalterr rfl rfl (fun φ w0 β0 F => ?_)
  refine c_run tt_ok ctOp_ok k_cpu_machine_testhalterr [] 60 (by kernel_rfl) ?_
  refine ⟨trivial, m, ⟨rfl, rfl, rfl, rfl⟩, ?_⟩
  exact fin_ke tt_ok (rs := rs_cpu_machine_testhalterr) rfl rfl hK [0, 1, 2] rfl rfl rfl rfl rfl rfl

noncomputable abbrev eOtesthalterr : Ent := .st (conS (P := Tryz.prog) (f := f_cpu_machine_testhalterr) fun cargs σ0 => match cargs, σ0 with
  | [.s (.loc 0 0)], [.blk 67 cs, .blk 63 [.sl 2 0 n n'], .own 5 1 c xs] => withMach cs fun k e hk => some ⟨.ex Ram fun m => .ask (n = m.l.length ∧ n' = m.l.length ∧ c = m.l.length ∧ xs = bytesI m.l)
      (.ret (.tup []) (Mach.mk k.o_testhalterr e m).chunks), fun K h => by
      obtain ⟨m, ⟨e1, e2, e3, e4⟩, h⟩ := h
      subst e1; subst e2; subst e3; subst e4; subst hk
      exact o_testhalterr_c ⟨k, e, m⟩  K h⟩
  | _, _ => none)

end Go.Proofs

namespace Go.Proofs
open Go Go.Sx
set_option maxRecDepth 10000
def Ram.put (m : Ram) (i : Nat) (v : List Int) : Ram :=
  if h : i + v.length ≤ m.l.length ∧ ∀ b ∈ v, 0 ≤ b ∧ b < 256 then ⟨setL m.l i v, by rw [setL_length h.1]; exact m.lo, by rw [setL_length h.1]; exact m.hi, by rw [setL_length h.1]; exact m.al, fun b hb => by
    unfold setL at hb
    rcases List.mem_append.1 hb with hb | hb
    · rcases List.mem_append.1 hb with hb | hb
      · exact m.byt b (List.mem_of_mem_take hb)
      · exact h.2 b hb
    · exact m.byt b (List.mem_of_mem_drop hb)⟩ else m
theorem put_ok {m : Ram} {i : Nat} {v : List Int} (h : i + v.length ≤ m.l.length) (hv : ∀ b ∈ v, 0 ≤ b ∧ b < 256) : (m.put i v).l = setL m.l i v := by unfold Ram.put; rw [dif_pos ⟨h, hv⟩]
theorem put_len (m : Ram) (i : Nat) (v : List Int) : (m.put i v).l.length = m.l.length := by
  unfold Ram.put; split
  · rename_i h; exact setL_length h.1
  · rfl
def mvBad (m : Ram) (to fr n : Int) : Bool := bif spanBad m.l.length fr (Uw n) then true else spanBad m.l.length to (Uw n)
def Ram.part (m : Ram) (fr n : Int) : List Int := (m.l.drop (ofAt fr).toNat).take (Uw n).toNat
def Ram.move (m : Ram) (to fr n : Int) : Ram := bif mvBad m to fr n then m else m.put (ofAt to).toNat (m.part fr n)
theorem part_len {m : Ram} {fr n : Int} (hf : I32 fr) (h : spanBad m.l.length fr (Uw n) = false) : (m.part fr n).length = (Uw n).toNat := by
  have := spanBad_i hf h
  have := Uw_lo n
  unfold Ram.part
  rw [List.length_take, List.length_drop]; omega
theorem part_byt (m : Ram) (fr n : Int) : ∀ b ∈ m.part fr n, 0 ≤ b ∧ b < 256 := fun b hb => m.byt b (List.mem_of_mem_drop (List.mem_of_mem_take hb))
theorem move_len (m : Ram) (to fr n : Int) : (m.move to fr n).l.length = m.l.length := by
  unfold Ram.move; cases mvBad m to fr n
  · exact put_len _ _ _
  · rfl
theorem move_ok {m : Ram} {to fr n : Int} (ht : I32 to) (hf : I32 fr) (h : mvBad m to fr n = false) : (m.move to fr n).l = setL m.l (ofAt to).toNat (m.part fr n) := by
  unfold Ram.move; rw [h]
  unfold mvBad at h
  have h1 : spanBad m.l.length fr (Uw n) = false := by cases h1 : spanBad m.l.length fr (Uw n) <;> simp [h1] at h ⊢
  rw [h1] at h
  have h2 : spanBad m.l.length to (Uw n) = false := h
  have := spanBad_i ht h2
  have := Uw_lo n
  refine put_ok ?_ (part_byt m fr n)
  rw [part_len hf h1]; omega

def Ram.byte (m : Ram) (a : Int) : Int := bif spanBad m.l.length a 1 then 0 else m.l.getD (ofAt a).toNat 0
def Ram.errB (m : Ram) (a : Int) : Int := bif spanBad m.l.length a 1 then 4 else 0
def Ram.setB (m : Ram) (a v : Int) : Ram := bif spanBad m.l.length a 1 then m else m.put (ofAt a).toNat [v]
theorem setB_len (m : Ram) (a v : Int) : (m.setB a v).l.length = m.l.length := by
  unfold Ram.setB; cases spanBad m.l.length a 1
  · exact put_len _ _ _
  · rfl
theorem Byte_t (m : Ram) (a : Int) (ha : I32 a) : Con Tryz.prog f_mem_Mem_Byte [.s (.loc 0 0), .s (.int .i32 a)] [mBox m.l.length, mOwn m.l]
    (.ret (.tup [.s (.int .u8 (m.byte a)), .s (.int .i64 (m.errB a))]) [mBox m.l.length, mOwn m.l]) := by
  intro K hK
  have h0 := m.lo
  refine Byte_c m.l a m.hi ha (by omega) K ⟨fun h => ?_, fun h => ?_⟩
  · unfold Ram.byte Ram.errB at hK; rw [h] at hK; exact hK
  · unfold Ram.byte Ram.errB at hK; rw [h] at hK; exact hK
theorem SetByte_t (m : Ram) (a v : Int) (ha : I32 a) (hv : 0 ≤ v ∧ v < 256) : Con Tryz.prog f_mem_Mem_SetByte [.s (.loc 0 0), .s (.int .i32 a), .s (.int .u8 v)] [mBox m.l.length, mOwn m.l]
    (.ret (.t (.s (.int .i64 (m.errB a)))) [mBox (m.setB a v).l.length, mOwn (m.setB a v).l]) := by
  intro K hK
  have h0 := m.lo
  have hl := setB_len m a v
  replace hK : K _ _ := hK
  refine SetByte_c m.l a v m.hi ha (by omega) K ⟨fun h => ?_, fun h => ?_⟩
  · unfold Ram.setB Ram.errB at hK; rw [h] at hK; exact hK
  · have hi := spanBad_i ha h
    have e : (m.setB a v).l = setL m.l (ofAt a).toNat [v] := by
      unfold Ram.setB; rw [h]
      exact put_ok (by simp; omega) (by intro b hb; simp at hb; subst hb; exact hv)
    rw [mOwn, hl, e] at hK
    unfold Ram.errB at hK; rw [h] at hK
    exact hK
def mvE (m : Ram) (to fr n : Int) : Int := bif n == 0 then 0 else bif mvBad m to fr n then 4 else 0
def mvM (m : Ram) (to fr n : Int) : Ram := bif n == 0 then m else m.move to fr n
theorem mvM_len (m : Ram) (to fr n : Int) : (mvM m to fr n).l.length = m.l.length := by
  unfold mvM; cases n == 0
  · exact move_len _ _ _ _
  · rfl
theorem Move_g (m : Ram) (to fr n : Int) (ht : I32 to) (hf : I32 fr) (hn : I32 n) : Con Tryz.prog f_mem_Mem_Move [.s (.loc 0 0), .s (.int .i32 to), .s (.int .i32 fr), .s (.int .i32 n)] [mBox m.l.length, mOwn m.l]
    (.ret (.t (.s (.int .i64 (mvE m to fr n)))) [mBox (mvM m to fr n).l.length, mOwn (mvM m to fr n).l]) := by
  intro K hK
  have h0 := m.lo
  have hl := move_len m to fr n
  replace hK : K _ _ := hK
  unfold mvE mvM at hK
  refine Move_c m.l to fr n m.hi ht hf hn (by omega) K ⟨fun h => ?_, fun h => ⟨fun h2 => ?_, fun h2 => ⟨fun h3 => ?_, fun h3 => ?_⟩⟩⟩
  · rw [h] at hK; exact hK
  · have hb : mvBad m to fr n = true := by unfold mvBad; rw [h2]; rfl
    rw [h, hb] at hK
    simp only [cond_false] at hK
    rw [show m.move to fr n = m by unfold Ram.move; rw [hb]; rfl] at hK
    exact hK
  · have hb : mvBad m to fr n = true := by unfold mvBad; rw [h2, h3]; rfl
    rw [h, hb] at hK
    simp only [cond_false] at hK
    rw [show m.move to fr n = m by unfold Ram.move; rw [hb]; rfl] at hK
    exact hK
  · have hb : mvBad m to fr n = false := by unfold mvBad; rw [h2, h3]; rfl
    rw [h, hb] at hK
    simp only [cond_false] at hK
    rw [mOwn, hl, move_ok ht hf hb] at hK
    exact hK
noncomputable abbrev eByteT : Ent := .st (conS (P := Tryz.prog) (f := f_mem_Mem_Byte) fun cargs σ0 => match cargs, σ0 with
  | [.s (.loc 0 0), .s (.int .i32 a)], [.blk 63 [.sl 1 0 l l'], .own 5 1 c xs] => some ⟨.ex Ram fun m => .ask (l = m.l.length ∧ l' = m.l.length ∧ c = m.l.length ∧ xs = bytesI m.l ∧ I32 a)
      (.ret (.tup [.s (.int .u8 (m.byte a)), .s (.int .i64 (m.errB a))]) [mBox m.l.length, mOwn m.l]), fun K h => by
      obtain ⟨m, ⟨e1, e2, e3, e4, h1⟩, h⟩ := h
      subst e1; subst e2; subst e3; subst e4
      exact Byte_t m a h1 K h⟩
  | _, _ => none)
noncomputable abbrev eSetByteT : Ent := .st (conS (P := Tryz.prog) (f := f_mem_Mem_SetByte) fun cargs σ0 => match cargs, σ0 with
  | [.s (.loc 0 0), .s (.int .i32 a), .s (.int .u8 v)], [.blk 63 [.sl 1 0 l l'], .own 5 1 c xs] => some ⟨.ex Ram fun m => .ask (l = m.l.length ∧ l' = m.l.length ∧ c = m.l.length ∧ xs = bytesI m.l ∧ I32 a ∧ 0 ≤ v ∧ v < 256)
      (.ret (.t (.s (.int .i64 (m.errB a)))) [mBox (m.setB a v).l.length, mOwn (m.setB a v).l]), fun K h => by
      obtain ⟨m, ⟨e1, e2, e3, e4, h1, h2⟩, h⟩ := h
      subst e1; subst e2; subst e3; subst e4
      exact SetByte_t m a v h1 h2 K h⟩
  | _, _ => none)
noncomputable abbrev eMoveG : Ent := .st (conS (P := Tryz.prog) (f := f_mem_Mem_Move) fun cargs σ0 => match cargs, σ0 with
  | [.s (.loc 0 0), .s (.int .i32 to), .s (.int .i32 fr), .s (.int .i32 n)], [.blk 63 [.sl 1 0 l l'], .own 5 1 c xs] => some ⟨.ex Ram fun m => .ask (l = m.l.length ∧ l' = m.l.length ∧ c = m.l.length ∧ xs = bytesI m.l ∧ I32 to ∧ I32 fr ∧ I32 n)
      (.ret (.t (.s (.int .i64 (mvE m to fr n)))) [mBox (mvM m to fr n).l.length, mOwn (mvM m to fr n).l]), fun K h => by
      obtain ⟨m, ⟨e1, e2, e3, e4, h1, h2, h3⟩, h⟩ := h
      subst e1; subst e2; subst e3; subst e4
      exact Move_g m to fr n h1 h2 h3 K h⟩
  | _, _ => none)
theorem fail_c (x : Mach) (v : Int) : Con Tryz.prog f_cpu_machine_fail [.s (.loc 0 0), .s (.int .i64 v)] x.chunks (.ret (.tup []) (Mach.mk x.k (eOr x.e v) x.m).chunks) := by
  obtain ⟨k, e, m⟩ := x
  intro K hK
  dsimp only at hK
  refine enter fn_cpu_machine_fail rfl nt_cpu_machine_fail rfl rfl (fun φ w0 β0 F => ?_)
  refine c_run tt_ok (ct := []) trivial k_cpu_machine_fail [] 60 (by kernel_rfl) ?_
  refine ⟨fun h => ?_, fun h => ?_⟩
  · rw [show eOr e v = v by simp [eOr, h]] at hK
    exact fin_ke tt_ok (rs := rs_cpu_machine_fail) rfl rfl hK [0, 1, 2] rfl rfl rfl rfl rfl rfl
  · rw [show eOr e v = e by simp [eOr, h]] at hK
    exact fin_ke tt_ok (rs := rs_cpu_machine_fail) rfl rfl hK [0, 1, 2] rfl rfl rfl rfl rfl rfl
noncomputable abbrev eFail : Ent := .st (conS (P := Tryz.prog) (f := f_cpu_machine_fail) fun cargs σ0 => match cargs, σ0 with
  | [.s (.loc 0 0), .s (.int .i64 v)], [.blk 67 cs, .blk 63 [.sl 2 0 n n'], .own 5 1 c xs] => withMach cs fun k e hk => some ⟨.ex Ram fun m => .ask (n = m.l.length ∧ n' = m.l.length ∧ c = m.l.length ∧ xs = bytesI m.l)
      (.ret (.tup []) (Mach.mk k (eOr e v) m).chunks), fun K h => by
      obtain ⟨m, ⟨e1, e2, e3, e4⟩, h⟩ := h
      subst e1; subst e2; subst e3; subst e4; subst hk
      exact fail_c ⟨k, e, m⟩ v K h⟩
  | _, _ => none)
noncomputable abbrev ctMe : CT := [(f_cpu_machine_load, eLoad), (f_cpu_machine_store, eStore), (f_cpu_machine_pop, eMpop), (f_cpu_machine_fail, eFail), (f_mem_Mem_Byte, eByteT), (f_mem_Mem_SetByte, eSetByteT), (f_mem_Mem_Move, eMoveG)]
theorem ctMe_ok : CTok Tryz.prog ctMe := ⟨con_ok cal_cpu_machine_load _, con_ok cal_cpu_machine_store _, con_ok cal_cpu_machine_pop _, con_ok cal_cpu_machine_fail _, con_ok cal_mem_Mem_Byte _, con_ok cal_mem_Mem_SetByte _, con_ok cal_mem_Mem_Move _, trivial⟩
/-- What an operation leaves: the core, the error, the memory. -/
def Mach.lb : Mach → Mach
  | ⟨k, e, m⟩ => ⟨{ k with a := IntKind.i32.wrap (m.byte k.a) }, eOr e (m.errB k.a), m⟩
theorem byte_rng (m : Ram) (a : Int) : 0 ≤ m.byte a ∧ m.byte a < 256 := by
  unfold Ram.byte
  cases spanBad m.l.length a 1
  · show 0 ≤ m.l.getD (ofAt a).toNat 0 ∧ m.l.getD (ofAt a).toNat 0 < 256
    by_cases h : (ofAt a).toNat < m.l.length
    · rw [List.getD_eq_getElem?_getD, List.getElem?_eq_getElem h]; exact m.byt _ (List.getElem_mem h)
    · rw [List.getD_eq_getElem?_getD, List.getElem?_eq_none (by omega)]; exact ⟨by simp, by simp⟩
  · exact ⟨Int.le_refl 0, show (0 : Int) < 256 by decide⟩
theorem lb_c (x : Mach) (hok : x.k.ok) : Con Tryz.prog f_cpu_machine_lb [.s (.loc 0 0)] x.chunks (.ret (.tup []) (Mach.lb x).chunks) := by
  obtain ⟨k, e, m⟩ := x
  intro K hK
  refine enter fn_cpu_machine_lb rfl nt_cpu_machine_lb rfl rfl (fun φ w0 β0 F => ?_)
  refine c_run tt_ok ctMe_ok k_cpu_machine_lb [] 90 (by kernel_rfl) ?_
  refine c_ways tt_ok ctMe_ok k_cpu_machine_lb rfl rfl ?_
  repeat' (first | exact trivial | (refine ⟨m, ⟨rfl, rfl, rfl, rfl, hok.a⟩, ?_⟩) | (refine And.intro ?_ ?_) | (refine fun _ => ?_))
  all_goals
    refine e_run tt_ok ctMe_ok k_cpu_machine_lb [] 60 (by kernel_rfl) ?_
    refine ⟨m, ⟨rfl, rfl, rfl, rfl⟩, ?_⟩
    exact fin_ke tt_ok (rs := rs_cpu_machine_lb) rfl rfl hK [0, 1, 2] rfl rfl rfl rfl rfl rfl
noncomputable abbrev eOlb : Ent := .st (conS (P := Tryz.prog) (f := f_cpu_machine_lb) fun cargs σ0 => match cargs, σ0 with
  | [.s (.loc 0 0)], [.blk 67 cs, .blk 63 [.sl 2 0 n n'], .own 5 1 c xs] => withMach cs fun k e hk => some ⟨.ex Ram fun m => .ask (n = m.l.length ∧ n' = m.l.length ∧ c = m.l.length ∧ xs = bytesI m.l ∧ k.ok)
      (.ret (.tup []) (Mach.lb ⟨k, e, m⟩).chunks), fun K h => by
      obtain ⟨m, ⟨e1, e2, e3, e4, h1⟩, h⟩ := h
      subst e1; subst e2; subst e3; subst e4; subst hk
      exact lb_c ⟨k, e, m⟩ h1 K h⟩
  | _, _ => none)
def Mach.sb : Mach → Mach
  | ⟨k, e, m⟩ => ⟨k.pop.pop, eOr e (m.errB k.a), m.setB k.a (IntKind.u8.wrap k.b)⟩
theorem u8w (v : Int) : 0 ≤ IntKind.u8.wrap v ∧ IntKind.u8.wrap v < 256 := by rw [IntKind.wrap_u8]; omega
theorem sb_c (x : Mach) (hok : x.k.ok) : Con Tryz.prog f_cpu_machine_sb [.s (.loc 0 0)] x.chunks (.ret (.tup []) (Mach.sb x).chunks) := by
  obtain ⟨k, e, m⟩ := x
  intro K hK
  refine enter fn_cpu_machine_sb rfl nt_cpu_machine_sb rfl rfl (fun φ w0 β0 F => ?_)
  refine c_run tt_ok ctMe_ok k_cpu_machine_sb [] 90 (by kernel_rfl) ?_
  refine c_ways tt_ok ctMe_ok k_cpu_machine_sb rfl rfl ?_
  repeat' (first | exact trivial | (refine ⟨m, ⟨rfl, rfl, rfl, rfl, hok.a, u8w _⟩, ?_⟩) | (refine ⟨m.setB k.a (IntKind.u8.wrap k.b), ⟨rfl, rfl, rfl, rfl⟩, ?_⟩) | (refine And.intro ?_ ?_) | (refine fun _ => ?_))
  all_goals
    refine e_run tt_ok ctMe_ok k_cpu_machine_sb [] 60 (by kernel_rfl) ?_
    refine ⟨m.setB k.a (IntKind.u8.wrap k.b), ⟨rfl, rfl, rfl, rfl⟩, m.setB k.a (IntKind.u8.wrap k.b), ⟨rfl, rfl, rfl, rfl⟩, ?_⟩
    exact fin_ke tt_ok (rs := rs_cpu_machine_sb) rfl rfl hK [0, 1, 2] rfl rfl rfl rfl rfl rfl
noncomputable abbrev eOsb : Ent := .st (conS (P := Tryz.prog) (f := f_cpu_machine_sb) fun cargs σ0 => match cargs, σ0 with
  | [.s (.loc 0 0)], [.blk 67 cs, .blk 63 [.sl 2 0 n n'], .own 5 1 c xs] => withMach cs fun k e hk => some ⟨.ex Ram fun m => .ask (n = m.l.length ∧ n' = m.l.length ∧ c = m.l.length ∧ xs = bytesI m.l ∧ k.ok)
      (.ret (.tup []) (Mach.sb ⟨k, e, m⟩).chunks), fun K h => by
      obtain ⟨m, ⟨e1, e2, e3, e4, h1⟩, h⟩ := h
      subst e1; subst e2; subst e3; subst e4; subst hk
      exact sb_c ⟨k, e, m⟩ h1 K h⟩
  | _, _ => none)
def Mach.move : Mach → Mach
  | ⟨k, e, m⟩ => ⟨k, eOr e (mvE m k.b k.c k.a), mvM m k.b k.c k.a⟩
set_option maxHeartbeats 2000000 in
theorem move_c (x : Mach) (hok : x.k.ok) : Con Tryz.prog f_cpu_machine_move [.s (.loc 0 0)] x.chunks (.ret (.tup []) (Mach.move x).chunks) := by
  obtain ⟨k, e, m⟩ := x
  intro K hK
  refine enter fn_cpu_machine_move rfl nt_cpu_machine_move rfl rfl (fun φ w0 β0 F => ?_)
  refine c_run tt_ok ctMe_ok k_cpu_machine_move [] 90 (by kernel_rfl) ?_
  refine c_ways tt_ok ctMe_ok k_cpu_machine_move rfl rfl ?_
  repeat' (first | exact trivial | (refine ⟨m, ⟨rfl, rfl, rfl, rfl, hok.b, hok.c, hok.a⟩, ?_⟩) | (refine ⟨mvM m k.b k.c k.a, ⟨rfl, rfl, rfl, rfl⟩, ?_⟩) | (refine And.intro ?_ ?_) | (refine fun _ => ?_))
  all_goals
    refine e_run tt_ok ctMe_ok k_cpu_machine_move [] 60 (by kernel_rfl) ?_
    exact fin_ke tt_ok (rs := rs_cpu_machine_move) rfl rfl hK [0, 1, 2] rfl rfl rfl rfl rfl rfl
noncomputable abbrev eOmove : Ent := .st (conS (P := Tryz.prog) (f := f_cpu_machine_move) fun cargs σ0 => match cargs, σ0 with
  | [.s (.loc 0 0)], [.blk 67 cs, .blk 63 [.sl 2 0 n n'], .own 5 1 c xs] => withMach cs fun k e hk => some ⟨.ex Ram fun m => .ask (n = m.l.length ∧ n' = m.l.length ∧ c = m.l.length ∧ xs = bytesI m.l ∧ k.ok)
      (.ret (.tup []) (Mach.move ⟨k, e, m⟩).chunks), fun K h => by
      obtain ⟨m, ⟨e1, e2, e3, e4, h1⟩, h⟩ := h
      subst e1; subst e2; subst e3; subst e4; subst hk
      exact move_c ⟨k, e, m⟩ h1 K h⟩
  | _, _ => none)
def Mach.ret : Mach → Mach
  | ⟨k, e, m⟩ => ⟨{ k with iptr := m.word k.wptr, wptr := IntKind.i32.wrap (k.wptr + 16) }, eOr e (m.err k.wptr), m⟩
theorem ret_c (x : Mach) (hok : x.k.ok) : Con Tryz.prog f_cpu_machine_ret [.s (.loc 0 0)] x.chunks (.ret (.tup []) (Mach.ret x).chunks) := by
  obtain ⟨k, e, m⟩ := x
  intro K hK
  refine enter fn_cpu_machine_ret rfl nt_cpu_machine_ret rfl rfl (fun φ w0 β0 F => ?_)
  refine c_run tt_ok ctMe_ok k_cpu_machine_ret [] 90 (by kernel_rfl) ?_
  refine ⟨m, ⟨rfl, rfl, rfl, rfl, hok.wptr⟩, ?_⟩
  exact fin_ke tt_ok (rs := rs_cpu_machine_ret) rfl rfl hK [0, 1, 2] rfl rfl rfl rfl rfl rfl
noncomputable abbrev eOret : Ent := .st (conS (P := Tryz.prog) (f := f_cpu_machine_ret) fun cargs σ0 => match cargs, σ0 with
  | [.s (.loc 0 0)], [.blk 67 cs, .blk 63 [.sl 2 0 n n'], .own 5 1 c xs] => withMach cs fun k e hk => some ⟨.ex Ram fun m => .ask (n = m.l.length ∧ n' = m.l.length ∧ c = m.l.length ∧ xs = bytesI m.l ∧ k.ok)
      (.ret (.tup []) (Mach.ret ⟨k, e, m⟩).chunks), fun K h => by
      obtain ⟨m, ⟨e1, e2, e3, e4, h1⟩, h⟩ := h
      subst e1; subst e2; subst e3; subst e4; subst hk
      exact ret_c ⟨k, e, m⟩ h1 K h⟩
  | _, _ => none)
def w4 (k : Core) : Int := IntKind.i32.wrap (k.b + 4)
def lendC (k : Core) (m : Ram) : Int := IntKind.i32.wrap (m.word (w4 k) - 1)
def lendE (k : Core) (e : Int) (m : Ram) : Int := eOr (eOr e (m.err k.b)) (m.err (w4 k))
def Mach.lend : Mach → Mach
  | ⟨k, e, m⟩ => bif lendE k e m != 0 then ⟨k, lendE k e m, m⟩ else
    bif decide (lendC k m > 0) then ⟨{ k with iptr := IntKind.i32.wrap (k.iptr - k.a) }, eOr (eOr (lendE k e m) (m.err (w4 k))) ((m.set (w4 k) (lendC k m)).err k.b), (m.set (w4 k) (lendC k m)).set k.b (IntKind.i32.wrap (m.word k.b + 1))⟩
    else ⟨k, eOr (lendE k e m) (m.err (w4 k)), m.set (w4 k) (lendC k m)⟩
set_option maxHeartbeats 2000000 in
theorem lend_c (x : Mach) (hok : x.k.ok) : Con Tryz.prog f_cpu_machine_lend [.s (.loc 0 0)] x.chunks (.ret (.tup []) (Mach.lend x).chunks) := by
  obtain ⟨k, e, m⟩ := x
  intro K hK
  refine enter fn_cpu_machine_lend rfl nt_cpu_machine_lend rfl rfl (fun φ w0 β0 F => ?_)
  refine c_run tt_ok ctMe_ok k_cpu_machine_lend [] 90 (by kernel_rfl) ?_
  refine ⟨m, ⟨rfl, rfl, rfl, rfl, hok.b⟩, m, ⟨rfl, rfl, rfl, rfl, I32_wrap _⟩, fun h => ?_, fun h => ⟨m, ⟨rfl, rfl, rfl, rfl, I32_wrap _⟩, fun h2 => ⟨m.set (w4 k) (lendC k m), ⟨rfl, rfl, rfl, rfl, hok.b⟩, ?_⟩, fun h2 => ?_⟩⟩
  · rw [show Mach.lend ⟨k, e, m⟩ = ⟨k, lendE k e m, m⟩ by simp only [Mach.lend, show (lendE k e m != 0) = true from h, cond_true]] at hK
    exact fin_k tt_ok (rs := rs_cpu_machine_lend) rfl rfl hK [0, 1, 2] rfl rfl rfl rfl rfl rfl
  · rw [show Mach.lend ⟨k, e, m⟩ = ⟨{ k with iptr := IntKind.i32.wrap (k.iptr - k.a) }, eOr (eOr (lendE k e m) (m.err (w4 k))) ((m.set (w4 k) (lendC k m)).err k.b), (m.set (w4 k) (lendC k m)).set k.b (IntKind.i32.wrap (m.word k.b + 1))⟩ by
      simp only [Mach.lend, show (lendE k e m != 0) = false from h, show decide (lendC k m > 0) = true from h2, cond_true, cond_false]] at hK
    first
    | exact fin_ke tt_ok (rs := rs_cpu_machine_lend) rfl rfl hK [0, 1, 2] rfl rfl rfl rfl rfl rfl
    | (refine c_ways tt_ok ctMe_ok k_cpu_machine_lend rfl rfl ?_
       repeat' (first | exact trivial | (refine And.intro ?_ ?_) | (refine fun _ => ?_))
       all_goals
         refine e_run tt_ok ctMe_ok k_cpu_machine_lend [] 60 (by kernel_rfl) ?_
         exact fin_ke tt_ok (rs := rs_cpu_machine_lend) rfl rfl hK [0, 1, 2] rfl rfl rfl rfl rfl rfl)
  · rw [show Mach.lend ⟨k, e, m⟩ = ⟨k, eOr (lendE k e m) (m.err (w4 k)), m.set (w4 k) (lendC k m)⟩ by
      simp only [Mach.lend, show (lendE k e m != 0) = false from h, show decide (lendC k m > 0) = false from h2, cond_false]] at hK
    exact fin_ke tt_ok (rs := rs_cpu_machine_lend) rfl rfl hK [0, 1, 2] rfl rfl rfl rfl rfl rfl
noncomputable abbrev eOlend : Ent := .st (conS (P := Tryz.prog) (f := f_cpu_machine_lend) fun cargs σ0 => match cargs, σ0 with
  | [.s (.loc 0 0)], [.blk 67 cs, .blk 63 [.sl 2 0 n n'], .own 5 1 c xs] => withMach cs fun k e hk => some ⟨.ex Ram fun m => .ask (n = m.l.length ∧ n' = m.l.length ∧ c = m.l.length ∧ xs = bytesI m.l ∧ k.ok)
      (.ret (.tup []) (Mach.lend ⟨k, e, m⟩).chunks), fun K h => by
      obtain ⟨m, ⟨e1, e2, e3, e4, h1⟩, h⟩ := h
      subst e1; subst e2; subst e3; subst e4; subst hk
      exact lend_c ⟨k, e, m⟩ h1 K h⟩
  | _, _ => none)
end Go.Proofs

namespace Go.Proofs
open Go Go.Sx
set_option maxRecDepth 10000
def cA (w : Int) (i : Int) : Int := IntKind.i32.wrap (IntKind.i32.wrap (w - IntKind.i32.wrap (4 * i)) - 4)
def callE (w e : Int) (m : Ram) : Int := eOr (eOr (eOr (eOr e (m.err (cA w 0))) (m.err (cA w 1))) (m.err (cA w 2))) (m.err (cA w 3))
def callM (k : Core) (m : Ram) : Ram := (((m.set (cA k.wptr 0) k.c).set (cA k.wptr 1) k.b).set (cA k.wptr 2) k.a).set (cA k.wptr 3) k.iptr
def callF (k : Core) (e : Int) (m : Ram) : Int := eOr (eOr (eOr (eOr e (m.err (cA k.wptr 0))) ((m.set (cA k.wptr 0) k.c).err (cA k.wptr 1))) (((m.set (cA k.wptr 0) k.c).set (cA k.wptr 1) k.b).err (cA k.wptr 2))) ((((m.set (cA k.wptr 0) k.c).set (cA k.wptr 1) k.b).set (cA k.wptr 2) k.a).err (cA k.wptr 3))
theorem callF_eq (k : Core) (e : Int) (m : Ram) : callF k e m = callE k.wptr e m := by unfold callF callE; simp only [set_err]
def Mach.call : Mach → Int → Mach
  | ⟨k, e, m⟩, n => bif callE k.wptr e m != 0 then ⟨k, callE k.wptr e m, m⟩ else
    ⟨{ k with a := k.iptr, wptr := IntKind.i32.wrap (k.wptr - 16), iptr := IntKind.i32.wrap (k.iptr + n) }, callF k (callE k.wptr e m) m, callM k m⟩
set_option maxHeartbeats 2000000 in
theorem call_c (x : Mach) (n : Int) : Con Tryz.prog f_cpu_machine_call [.s (.loc 0 0), .s (.int .i32 n)] x.chunks (.ret (.tup []) (Mach.call x n).chunks) := by
  obtain ⟨k, e, m⟩ := x
  intro K hK
  refine enter fn_cpu_machine_call rfl nt_cpu_machine_call rfl rfl (fun φ w0 β0 F => ?_)
  refine c_run tt_ok ctMe_ok k_cpu_machine_call [] 90 (by kernel_rfl) ?_
  show WpC _ _ _ _ _
  refine c_unroll 4 ?_
  refine c_run' tt_ok ctMe_ok k_cpu_machine_call [] 90 (by kernel_rfl) (by kernel_rfl) ?_
  refine ⟨fun _ => ⟨m, ⟨rfl, rfl, rfl, rfl, I32_wrap _⟩, ?_⟩, fun h => absurd h (by decide)⟩
  refine ⟨fun _ => ⟨m, ⟨rfl, rfl, rfl, rfl, I32_wrap _⟩, ?_⟩, fun h => absurd h (by decide)⟩
  refine ⟨fun _ => ⟨m, ⟨rfl, rfl, rfl, rfl, I32_wrap _⟩, ?_⟩, fun h => absurd h (by decide)⟩
  refine ⟨fun _ => ⟨m, ⟨rfl, rfl, rfl, rfl, I32_wrap _⟩, ?_⟩, fun h => absurd h (by decide)⟩
  refine ⟨fun h => absurd h (by decide), fun _ => ⟨fun h => ?_, fun h => ?_⟩⟩
  · rw [show Mach.call ⟨k, e, m⟩ n = ⟨k, callE k.wptr e m, m⟩ by simp only [Mach.call, show (callE k.wptr e m != 0) = true from h, cond_true]] at hK
    exact fin_k tt_ok (rs := rs_cpu_machine_call) rfl rfl hK [0, 1, 2] rfl rfl rfl rfl rfl rfl
  · have hcl : Mach.call ⟨k, e, m⟩ n = ⟨{ k with a := k.iptr, wptr := IntKind.i32.wrap (k.wptr - 16), iptr := IntKind.i32.wrap (k.iptr + n) }, callF k (callE k.wptr e m) m, callM k m⟩ := by
      simp only [Mach.call, show (callE k.wptr e m != 0) = false from h, cond_false]
    rw [hcl] at hK
    clear h hcl
    show WpC _ _ _ _ _
    refine c_unroll 4 ?_
    refine c_run' tt_ok ctMe_ok k_cpu_machine_call [] 90 (by kernel_rfl) (by kernel_rfl) ?_
    refine ⟨fun _ => ⟨m, ⟨rfl, rfl, rfl, rfl, I32_wrap _⟩, ?_⟩, fun h => absurd h (by decide)⟩
    refine ⟨fun _ => ⟨m.set (cA k.wptr 0) k.c, ⟨rfl, rfl, rfl, rfl, I32_wrap _⟩, ?_⟩, fun h => absurd h (by decide)⟩
    refine ⟨fun _ => ⟨(m.set (cA k.wptr 0) k.c).set (cA k.wptr 1) k.b, ⟨rfl, rfl, rfl, rfl, I32_wrap _⟩, ?_⟩, fun h => absurd h (by decide)⟩
    refine ⟨fun _ => ⟨((m.set (cA k.wptr 0) k.c).set (cA k.wptr 1) k.b).set (cA k.wptr 2) k.a, ⟨rfl, rfl, rfl, rfl, I32_wrap _⟩, ?_⟩, fun h => absurd h (by decide)⟩
    refine ⟨fun h => absurd h (by decide), fun _ => ?_⟩
    refine c_ways tt_ok ctMe_ok k_cpu_machine_call rfl rfl ?_
    repeat' (first | exact trivial | (refine And.intro ?_ ?_) | (refine fun _ => ?_))
    all_goals
      refine e_run tt_ok ctMe_ok k_cpu_machine_call [] 60 (by kernel_rfl) ?_
      exact fin_ke tt_ok (rs := rs_cpu_machine_call) rfl rfl hK [0, 1, 2] rfl rfl rfl rfl rfl rfl
noncomputable abbrev eCall : Ent := .st (conS (P := Tryz.prog) (f := f_cpu_machine_call) fun cargs σ0 => match cargs, σ0 with
  | [.s (.loc 0 0), .s (.int .i32 v)], [.blk 67 cs, .blk 63 [.sl 2 0 n n'], .own 5 1 c xs] => withMach cs fun k e hk => some ⟨.ex Ram fun m => .ask (n = m.l.length ∧ n' = m.l.length ∧ c = m.l.length ∧ xs = bytesI m.l)
      (.ret (.tup []) (Mach.call ⟨k, e, m⟩ v).chunks), fun K h => by
      obtain ⟨m, ⟨e1, e2, e3, e4⟩, h⟩ := h
      subst e1; subst e2; subst e3; subst e4; subst hk
      exact call_c ⟨k, e, m⟩ v K h⟩
  | _, _ => none)
end Go.Proofs

namespace Go.Proofs
open Go Go.Sx
set_option maxRecDepth 10000
def at4 (w n : Int) : Int := IntKind.i32.wrap (w + IntKind.i32.wrap (4 * n))
noncomputable abbrev ctFn : CT := [(f_cpu_machine_load, eLoad), (f_cpu_machine_store, eStore), (f_cpu_machine_push, eMpush), (f_cpu_machine_pop, eMpop), (f_cpu_machine_check, eMcheck), (f_cpu_truth, .pure spTruth), (f_word_Add, .pure spwAdd), (f_cpu_machine_call, eCall)]
theorem ctFn_ok : CTok Tryz.prog ctFn := ⟨con_ok cal_cpu_machine_load _, con_ok cal_cpu_machine_store _, con_ok cal_cpu_machine_push _, con_ok cal_cpu_machine_pop _, con_ok cal_cpu_machine_check _, ceTruth, cewAdd, con_ok cal_cpu_machine_call _, trivial⟩
def Mach.fn : Mach → Int → Int → Mach
  | ⟨k, e, m⟩, f, n => bif f == 0 then ⟨{ k with iptr := IntKind.i32.wrap (k.iptr + n) }, e, m⟩ else bif f == 1 then ⟨k.push (at4 k.wptr n), e, m⟩ else bif f == 3 then ⟨{ k with a := m.word (at4 k.a n) }, eOr e (m.err (at4 k.a n)), m⟩ else bif f == 4 then ⟨k.push n, e, m⟩ else bif f == 5 then ⟨{ k with a := at4 k.a n }, e, m⟩ else bif f == 7 then ⟨k.push (m.word (at4 k.wptr n)), eOr e (m.err (at4 k.wptr n)), m⟩ else bif f == 8 then ⟨({ k with a := Wd (k.a + n) }).check (wdO (k.a + n)), e, m⟩ else bif f == 9 then Mach.call ⟨k, e, m⟩ n else bif f == 10 then (bif k.a == 0 then ⟨{ k with iptr := IntKind.i32.wrap (k.iptr + n) }, e, m⟩ else ⟨k.pop, e, m⟩) else bif f == 11 then ⟨{ k with wptr := at4 k.wptr n }, e, m⟩ else bif f == 12 then ⟨{ k with a := trI (k.a == n) }, e, m⟩ else bif f == 13 then ⟨k.pop, eOr e (m.err (at4 k.wptr n)), m.set (at4 k.wptr n) k.a⟩ else bif f == 14 then ⟨k.pop.pop, eOr e (m.err (at4 k.a n)), m.set (at4 k.a n) k.b⟩ else ⟨k, e, m⟩

set_option maxHeartbeats 4000000 in
theorem function_c (x : Mach) (f n : Int) (hok : x.k.ok) (hn : I32 n) : Con Tryz.prog f_cpu_machine_function [.s (.loc 0 0), .s (.int .u8 f), .s (.int .i32 n)] x.chunks (.ret (.tup []) (Mach.fn x f n).chunks) := by
  obtain ⟨k, e, m⟩ := x
  intro K hK
  refine enter fn_cpu_machine_function rfl nt_cpu_machine_function rfl rfl (fun φ w0 β0 F => ?_)
  refine c_run tt_ok ctFn_ok k_cpu_machine_function [] 120 (by kernel_rfl) ?_
  refine ⟨fun h0 => ?_, fun h0 => ⟨fun h1 => ?_, fun h1 => ⟨fun h2 => ?_, fun h2 => ⟨fun h3 => ?_, fun h3 => ⟨fun h4 => ?_, fun h4 => ⟨fun h5 => ?_, fun h5 => ⟨fun h6 => ?_, fun h6 => ⟨fun h7 => ?_, fun h7 => ⟨fun h8 => ?_, fun h8 => ⟨fun h9 => ?_, fun h9 => ⟨fun h10 => ?_, fun h10 => ⟨fun h11 => ?_, fun h11 => ⟨fun h12 => ?_, fun h12 => ?_⟩⟩⟩⟩⟩⟩⟩⟩⟩⟩⟩⟩⟩
  · rw [show Mach.fn ⟨k, e, m⟩ f n = ⟨{ k with iptr := IntKind.i32.wrap (k.iptr + n) }, e, m⟩ by simp only [Mach.fn, show (f == 0) = true from h0, cond_true]] at hK
    exact fin_ke tt_ok (rs := rs_cpu_machine_function) rfl rfl hK [0, 1, 2] rfl rfl rfl rfl rfl rfl
  · rw [show Mach.fn ⟨k, e, m⟩ f n = ⟨k.push (at4 k.wptr n), e, m⟩ by simp only [Mach.fn, show (f == 0) = false from h0, show (f == 1) = true from h1, cond_true, cond_false]] at hK
    refine ⟨m, ⟨rfl, rfl, rfl, rfl⟩, ?_⟩
    exact fin_ke tt_ok (rs := rs_cpu_machine_function) rfl rfl hK [0, 1, 2] rfl rfl rfl rfl rfl rfl
  · rw [show Mach.fn ⟨k, e, m⟩ f n = ⟨{ k with a := m.word (at4 k.a n) }, eOr e (m.err (at4 k.a n)), m⟩ by simp only [Mach.fn, show (f == 0) = false from h0, show (f == 1) = false from h1, show (f == 3) = true from h2, cond_true, cond_false]] at hK
    refine ⟨m, ⟨rfl, rfl, rfl, rfl, I32_wrap _⟩, ?_⟩
    exact fin_ke tt_ok (rs := rs_cpu_machine_function) rfl rfl hK [0, 1, 2] rfl rfl rfl rfl rfl rfl
  · rw [show Mach.fn ⟨k, e, m⟩ f n = ⟨k.push n, e, m⟩ by simp only [Mach.fn, show (f == 0) = false from h0, show (f == 1) = false from h1, show (f == 3) = false from h2, show (f == 4) = true from h3, cond_true, cond_false]] at hK
    refine ⟨m, ⟨rfl, rfl, rfl, rfl⟩, ?_⟩
    exact fin_ke tt_ok (rs := rs_cpu_machine_function) rfl rfl hK [0, 1, 2] rfl rfl rfl rfl rfl rfl
  · rw [show Mach.fn ⟨k, e, m⟩ f n = ⟨{ k with a := at4 k.a n }, e, m⟩ by simp only [Mach.fn, show (f == 0) = false from h0, show (f == 1) = false from h1, show (f == 3) = false from h2, show (f == 4) = false from h3, show (f == 5) = true from h4, cond_true, cond_false]] at hK
    exact fin_ke tt_ok (rs := rs_cpu_machine_function) rfl rfl hK [0, 1, 2] rfl rfl rfl rfl rfl rfl
  · rw [show Mach.fn ⟨k, e, m⟩ f n = ⟨k.push (m.word (at4 k.wptr n)), eOr e (m.err (at4 k.wptr n)), m⟩ by simp only [Mach.fn, show (f == 0) = false from h0, show (f == 1) = false from h1, show (f == 3) = false from h2, show (f == 4) = false from h3, show (f == 5) = false from h4, show (f == 7) = true from h5, cond_true, cond_false]] at hK
    refine ⟨m, ⟨rfl, rfl, rfl, rfl, I32_wrap _⟩, m, ⟨rfl, rfl, rfl, rfl⟩, ?_⟩
    exact fin_ke tt_ok (rs := rs_cpu_machine_function) rfl rfl hK [0, 1, 2] rfl rfl rfl rfl rfl rfl
  · rw [show Mach.fn ⟨k, e, m⟩ f n = ⟨({ k with a := Wd (k.a + n) }).check (wdO (k.a + n)), e, m⟩ by simp only [Mach.fn, show (f == 0) = false from h0, show (f == 1) = false from h1, show (f == 3) = false from h2, show (f == 4) = false from h3, show (f == 5) = false from h4, show (f == 7) = false from h5, show (f == 8) = true from h6, cond_true, cond_false]] at hK
    refine ⟨⟨hok.a, hn⟩, m, ⟨rfl, rfl, rfl, rfl⟩, ?_⟩
    exact fin_ke tt_ok (rs := rs_cpu_machine_function) rfl rfl hK [0, 1, 2] rfl rfl rfl rfl rfl rfl
  · rw [show Mach.fn ⟨k, e, m⟩ f n = Mach.call ⟨k, e, m⟩ n by simp only [Mach.fn, show (f == 0) = false from h0, show (f == 1) = false from h1, show (f == 3) = false from h2, show (f == 4) = false from h3, show (f == 5) = false from h4, show (f == 7) = false from h5, show (f == 8) = false from h6, show (f == 9) = true from h7, cond_true, cond_false]] at hK
    refine ⟨m, ⟨rfl, rfl, rfl, rfl⟩, ?_⟩
    exact fin_ke tt_ok (rs := rs_cpu_machine_function) rfl rfl hK [0, 1, 2] rfl rfl rfl rfl rfl rfl
  · rw [show Mach.fn ⟨k, e, m⟩ f n = (bif k.a == 0 then ⟨{ k with iptr := IntKind.i32.wrap (k.iptr + n) }, e, m⟩ else ⟨k.pop, e, m⟩) by simp only [Mach.fn, show (f == 0) = false from h0, show (f == 1) = false from h1, show (f == 3) = false from h2, show (f == 4) = false from h3, show (f == 5) = false from h4, show (f == 7) = false from h5, show (f == 8) = false from h6, show (f == 9) = false from h7, show (f == 10) = true from h8, cond_true, cond_false]] at hK
    refine ⟨fun h => ?_, fun h => ?_⟩
    · rw [show (k.a == 0) = true from h] at hK
      exact fin_ke tt_ok (rs := rs_cpu_machine_function) rfl rfl hK [0, 1, 2] rfl rfl rfl rfl rfl rfl
    · rw [show (k.a == 0) = false from h] at hK
      refine ⟨m, ⟨rfl, rfl, rfl, rfl⟩, ?_⟩
      exact fin_ke tt_ok (rs := rs_cpu_machine_function) rfl rfl hK [0, 1, 2] rfl rfl rfl rfl rfl rfl
  · rw [show Mach.fn ⟨k, e, m⟩ f n = ⟨{ k with wptr := at4 k.wptr n }, e, m⟩ by simp only [Mach.fn, show (f == 0) = false from h0, show (f == 1) = false from h1, show (f == 3) = false from h2, show (f == 4) = false from h3, show (f == 5) = false from h4, show (f == 7) = false from h5, show (f == 8) = false from h6, show (f == 9) = false from h7, show (f == 10) = false from h8, show (f == 11) = true from h9, cond_true, cond_false]] at hK
    exact fin_ke tt_ok (rs := rs_cpu_machine_function) rfl rfl hK [0, 1, 2] rfl rfl rfl rfl rfl rfl
  · rw [show Mach.fn ⟨k, e, m⟩ f n = ⟨{ k with a := trI (k.a == n) }, e, m⟩ by simp only [Mach.fn, show (f == 0) = false from h0, show (f == 1) = false from h1, show (f == 3) = false from h2, show (f == 4) = false from h3, show (f == 5) = false from h4, show (f == 7) = false from h5, show (f == 8) = false from h6, show (f == 9) = false from h7, show (f == 10) = false from h8, show (f == 11) = false from h9, show (f == 12) = true from h10, cond_true, cond_false]] at hK
    refine ⟨trivial, ?_⟩
    exact fin_ke tt_ok (rs := rs_cpu_machine_function) rfl rfl hK [0, 1, 2] rfl rfl rfl rfl rfl rfl
  · rw [show Mach.fn ⟨k, e, m⟩ f n = ⟨k.pop, eOr e (m.err (at4 k.wptr n)), m.set (at4 k.wptr n) k.a⟩ by simp only [Mach.fn, show (f == 0) = false from h0, show (f == 1) = false from h1, show (f == 3) = false from h2, show (f == 4) = false from h3, show (f == 5) = false from h4, show (f == 7) = false from h5, show (f == 8) = false from h6, show (f == 9) = false from h7, show (f == 10) = false from h8, show (f == 11) = false from h9, show (f == 12) = false from h10, show (f == 13) = true from h11, cond_true, cond_false]] at hK
    refine c_ways tt_ok ctFn_ok k_cpu_machine_function rfl rfl ?_
    repeat' (first | exact trivial | (refine ⟨m, ⟨rfl, rfl, rfl, rfl, I32_wrap _⟩, ?_⟩) | (refine And.intro ?_ ?_) | (refine fun _ => ?_))
    all_goals
      refine e_run tt_ok ctFn_ok k_cpu_machine_function [] 60 (by kernel_rfl) ?_
      refine ⟨m.set (at4 k.wptr n) k.a, ⟨rfl, rfl, rfl, rfl⟩, ?_⟩
      exact fin_ke tt_ok (rs := rs_cpu_machine_function) rfl rfl hK [0, 1, 2] rfl rfl rfl rfl rfl rfl
  · rw [show Mach.fn ⟨k, e, m⟩ f n = ⟨k.pop.pop, eOr e (m.err (at4 k.a n)), m.set (at4 k.a n) k.b⟩ by simp only [Mach.fn, show (f == 0) = false from h0, show (f == 1) = false from h1, show (f == 3) = false from h2, show (f == 4) = false from h3, show (f == 5) = false from h4, show (f == 7) = false from h5, show (f == 8) = false from h6, show (f == 9) = false from h7, show (f == 10) = false from h8, show (f == 11) = false from h9, show (f == 12) = false from h10, show (f == 13) = false from h11, show (f == 14) = true from h12, cond_true, cond_false]] at hK
    refine c_ways tt_ok ctFn_ok k_cpu_machine_function rfl rfl ?_
    repeat' (first | exact trivial | (refine ⟨m, ⟨rfl, rfl, rfl, rfl, I32_wrap _⟩, ?_⟩) | (refine And.intro ?_ ?_) | (refine fun _ => ?_))
    all_goals
      refine e_run tt_ok ctFn_ok k_cpu_machine_function [] 60 (by kernel_rfl) ?_
      refine ⟨m.set (at4 k.a n) k.b, ⟨rfl, rfl, rfl, rfl⟩, m.set (at4 k.a n) k.b, ⟨rfl, rfl, rfl, rfl⟩, ?_⟩
      exact fin_ke tt_ok (rs := rs_cpu_machine_function) rfl rfl hK [0, 1, 2] rfl rfl rfl rfl rfl rfl
  · rw [show Mach.fn ⟨k, e, m⟩ f n = ⟨k, e, m⟩ by simp only [Mach.fn, show (f == 0) = false from h0, show (f == 1) = false from h1, show (f == 3) = false from h2, show (f == 4) = false from h3, show (f == 5) = false from h4, show (f == 7) = false from h5, show (f == 8) = false from h6, show (f == 9) = false from h7, show (f == 10) = false from h8, show (f == 11) = false from h9, show (f == 12) = false from h10, show (f == 13) = false from h11, show (f == 14) = false from h12, cond_false]] at hK
    exact fin_ke tt_ok (rs := rs_cpu_machine_function) rfl rfl hK [0, 1, 2] rfl rfl rfl rfl rfl rfl

noncomputable abbrev eFunction : Ent := .st (conS (P := Tryz.prog) (f := f_cpu_machine_function) fun cargs σ0 => match cargs, σ0 with
  | [.s (.loc 0 0), .s (.int .u8 f), .s (.int .i32 v)], [.blk 67 cs, .blk 63 [.sl 2 0 n n'], .own 5 1 c xs] => withMach cs fun k e hk => some ⟨.ex (Ram × Mach) fun p => .ask (n = p.1.l.length ∧ n' = p.1.l.length ∧ c = p.1.l.length ∧ xs = bytesI p.1.l ∧ (k.ok ∧ I32 v) ∧ Mach.fn ⟨k, e, p.1⟩ f v = p.2)
      (.ret (.tup []) p.2.chunks), fun K h => by
      obtain ⟨⟨m, y⟩, ⟨e1, e2, e3, e4, h1, h2⟩, h⟩ := h
      dsimp only at e1 e2 e3 e4 h1 h2 h
      subst e1; subst e2; subst e3; subst e4; subst hk; subst h2
      exact function_c ⟨k, e, m⟩ f v h1.1 h1.2 K h⟩
  | _, _ => none)
end Go.Proofs

namespace Go.Proofs
open Go Go.Sx
set_option maxRecDepth 10000
theorem plain_c (g : FuncId) : Con Tryz.prog f_cpu_plain [.clo (.func g) [] []] [] (.ret (.t (.clo (.func 137) [] [.loc 0 0])) [.blk 94 [.raw (.func (.func g) #[] #[])]]) := by
  intro K hK
  refine enter fn_cpu_plain rfl nt_cpu_plain rfl rfl (fun φ w0 β0 F => ?_)
  refine c_run tt_ok (ct := []) trivial k_cpu_plain [] 60 (by kernel_rfl) ?_
  exact fin_k tt_ok (rs := rs_cpu_plain) rfl rfl hK [0] rfl rfl rfl rfl rfl rfl
noncomputable abbrev ePlain : Ent := .st (conS (P := Tryz.prog) (f := f_cpu_plain) fun cargs σ0 => match cargs, σ0 with
  | [.clo (.func g) [] []], [] => some ⟨.ret (.t (.clo (.func 137) [] [.loc 0 0])) [.blk 94 [.raw (.func (.func g) #[] #[])]], fun K h => plain_c g K h⟩
  | _, _ => none)
noncomputable abbrev ctPl : CT := [(f_cpu_plain, ePlain)]
theorem ctPl_ok : CTok Tryz.prog ctPl := ⟨con_ok cal_cpu_plain _, trivial⟩
def binF (o : Int) : Option (Nat × Option Nat) := bif o == 5 then some (43, none) else bif o == 12 then some (48, none) else bif o == 83 then some (49, none) else bif o == 44 then some (50, none) else bif o == 31 then some (51, none) else bif o == 58 then some (137, some 53) else bif o == 86 then some (54, none) else bif o == 19 then some (55, none) else bif o == 77 then some (56, none) else bif o == 82 then some (137, some 57) else bif o == 4 then some (137, some 58) else bif o == 8 then some (137, some 59) else bif o == 65 then some (137, some 60) else bif o == 64 then some (137, some 61) else bif o == 70 then some (137, some 62) else bif o == 75 then some (137, some 63) else bif o == 51 then some (137, some 64) else bif o == 9 then some (137, some 65) else bif o == 2 then some (137, some 66) else bif o == 10 then some (137, some 68) else none
def binOut : Option (Nat × Option Nat) → Out
  | none => .ret (.t (.s (.raw .nilFunc))) []
  | some (f, none) => .ret (.t (.clo (.func f) [] [])) []
  | some (f, some g) => .ret (.t (.clo (.func f) [] [.loc 0 0])) [.blk 94 [.raw (.func (.func g) #[] #[])]]

set_option maxHeartbeats 2000000 in
theorem binary_c (o : Int) : Con Tryz.prog f_cpu_binary [.s (.int .i32 o)] [] (binOut (binF o)) := by
  intro K hK
  refine enter fn_cpu_binary rfl nt_cpu_binary rfl rfl (fun φ w0 β0 F => ?_)
  refine c_run tt_ok ctPl_ok k_cpu_binary [] 120 (by kernel_rfl) ?_
  refine ⟨fun h0 => ?_, fun h0 => ⟨fun h1 => ?_, fun h1 => ⟨fun h2 => ?_, fun h2 => ⟨fun h3 => ?_, fun h3 => ⟨fun h4 => ?_, fun h4 => ⟨fun h5 => ?_, fun h5 => ⟨fun h6 => ?_, fun h6 => ⟨fun h7 => ?_, fun h7 => ⟨fun h8 => ?_, fun h8 => ⟨fun h9 => ?_, fun h9 => ⟨fun h10 => ?_, fun h10 => ⟨fun h11 => ?_, fun h11 => ⟨fun h12 => ?_, fun h12 => ⟨fun h13 => ?_, fun h13 => ⟨fun h14 => ?_, fun h14 => ⟨fun h15 => ?_, fun h15 => ⟨fun h16 => ?_, fun h16 => ⟨fun h17 => ?_, fun h17 => ⟨fun h18 => ?_, fun h18 => ⟨fun h19 => ?_, fun h19 => ?_⟩⟩⟩⟩⟩⟩⟩⟩⟩⟩⟩⟩⟩⟩⟩⟩⟩⟩⟩⟩
  · rw [show binF o = some (43, none) by simp only [binF, show (o == 5) = true from h0, cond_true]] at hK
    exact fin_k tt_ok (rs := rs_cpu_binary) rfl rfl hK [] rfl rfl rfl rfl rfl rfl
  · rw [show binF o = some (48, none) by simp only [binF, show (o == 5) = false from h0, show (o == 12) = true from h1, cond_true, cond_false]] at hK
    exact fin_k tt_ok (rs := rs_cpu_binary) rfl rfl hK [] rfl rfl rfl rfl rfl rfl
  · rw [show binF o = some (49, none) by simp only [binF, show (o == 5) = false from h0, show (o == 12) = false from h1, show (o == 83) = true from h2, cond_true, cond_false]] at hK
    exact fin_k tt_ok (rs := rs_cpu_binary) rfl rfl hK [] rfl rfl rfl rfl rfl rfl
  · rw [show binF o = some (50, none) by simp only [binF, show (o == 5) = false from h0, show (o == 12) = false from h1, show (o == 83) = false from h2, show (o == 44) = true from h3, cond_true, cond_false]] at hK
    exact fin_k tt_ok (rs := rs_cpu_binary) rfl rfl hK [] rfl rfl rfl rfl rfl rfl
  · rw [show binF o = some (51, none) by simp only [binF, show (o == 5) = false from h0, show (o == 12) = false from h1, show (o == 83) = false from h2, show (o == 44) = false from h3, show (o == 31) = true from h4, cond_true, cond_false]] at hK
    exact fin_k tt_ok (rs := rs_cpu_binary) rfl rfl hK [] rfl rfl rfl rfl rfl rfl
  · rw [show binF o = some (137, some 53) by simp only [binF, show (o == 5) = false from h0, show (o == 12) = false from h1, show (o == 83) = false from h2, show (o == 44) = false from h3, show (o == 31) = false from h4, show (o == 58) = true from h5, cond_true, cond_false]] at hK
    exact fin_k tt_ok (rs := rs_cpu_binary) rfl rfl hK [0] rfl rfl rfl rfl rfl rfl
  · rw [show binF o = some (54, none) by simp only [binF, show (o == 5) = false from h0, show (o == 12) = false from h1, show (o == 83) = false from h2, show (o == 44) = false from h3, show (o == 31) = false from h4, show (o == 58) = false from h5, show (o == 86) = true from h6, cond_true, cond_false]] at hK
    exact fin_k tt_ok (rs := rs_cpu_binary) rfl rfl hK [] rfl rfl rfl rfl rfl rfl
  · rw [show binF o = some (55, none) by simp only [binF, show (o == 5) = false from h0, show (o == 12) = false from h1, show (o == 83) = false from h2, show (o == 44) = false from h3, show (o == 31) = false from h4, show (o == 58) = false from h5, show (o == 86) = false from h6, show (o == 19) = true from h7, cond_true, cond_false]] at hK
    exact fin_k tt_ok (rs := rs_cpu_binary) rfl rfl hK [] rfl rfl rfl rfl rfl rfl
  · rw [show binF o = some (56, none) by simp only [binF, show (o == 5) = false from h0, show (o == 12) = false from h1, show (o == 83) = false from h2, show (o == 44) = false from h3, show (o == 31) = false from h4, show (o == 58) = false from h5, show (o == 86) = false from h6, show (o == 19) = false from h7, show (o == 77) = true from h8, cond_true, cond_false]] at hK
    exact fin_k tt_ok (rs := rs_cpu_binary) rfl rfl hK [] rfl rfl rfl rfl rfl rfl
  · rw [show binF o = some (137, some 57) by simp only [binF, show (o == 5) = false from h0, show (o == 12) = false from h1, show (o == 83) = false from h2, show (o == 44) = false from h3, show (o == 31) = false from h4, show (o == 58) = false from h5, show (o == 86) = false from h6, show (o == 19) = false from h7, show (o == 77) = false from h8, show (o == 82) = true from h9, cond_true, cond_false]] at hK
    exact fin_k tt_ok (rs := rs_cpu_binary) rfl rfl hK [0] rfl rfl rfl rfl rfl rfl
  · rw [show binF o = some (137, some 58) by simp only [binF, show (o == 5) = false from h0, show (o == 12) = false from h1, show (o == 83) = false from h2, show (o == 44) = false from h3, show (o == 31) = false from h4, show (o == 58) = false from h5, show (o == 86) = false from h6, show (o == 19) = false from h7, show (o == 77) = false from h8, show (o == 82) = false from h9, show (o == 4) = true from h10, cond_true, cond_false]] at hK
    exact fin_k tt_ok (rs := rs_cpu_binary) rfl rfl hK [0] rfl rfl rfl rfl rfl rfl
  · rw [show binF o = some (137, some 59) by simp only [binF, show (o == 5) = false from h0, show (o == 12) = false from h1, show (o == 83) = false from h2, show (o == 44) = false from h3, show (o == 31) = false from h4, show (o == 58) = false from h5, show (o == 86) = false from h6, show (o == 19) = false from h7, show (o == 77) = false from h8, show (o == 82) = false from h9, show (o == 4) = false from h10, show (o == 8) = true from h11, cond_true, cond_false]] at hK
    exact fin_k tt_ok (rs := rs_cpu_binary) rfl rfl hK [0] rfl rfl rfl rfl rfl rfl
  · rw [show binF o = some (137, some 60) by simp only [binF, show (o == 5) = false from h0, show (o == 12) = false from h1, show (o == 83) = false from h2, show (o == 44) = false from h3, show (o == 31) = false from h4, show (o == 58) = false from h5, show (o == 86) = false from h6, show (o == 19) = false from h7, show (o == 77) = false from h8, show (o == 82) = false from h9, show (o == 4) = false from h10, show (o == 8) = false from h11, show (o == 65) = true from h12, cond_true, cond_false]] at hK
    exact fin_k tt_ok (rs := rs_cpu_binary) rfl rfl hK [0] rfl rfl rfl rfl rfl rfl
  · rw [show binF o = some (137, some 61) by simp only [binF, show (o == 5) = false from h0, show (o == 12) = false from h1, show (o == 83) = false from h2, show (o == 44) = false from h3, show (o == 31) = false from h4, show (o == 58) = false from h5, show (o == 86) = false from h6, show (o == 19) = false from h7, show (o == 77) = false from h8, show (o == 82) = false from h9, show (o == 4) = false from h10, show (o == 8) = false from h11, show (o == 65) = false from h12, show (o == 64) = true from h13, cond_true, cond_false]] at hK
    exact fin_k tt_ok (rs := rs_cpu_binary) rfl rfl hK [0] rfl rfl rfl rfl rfl rfl
  · rw [show binF o = some (137, some 62) by simp only [binF, show (o == 5) = false from h0, show (o == 12) = false from h1, show (o == 83) = false from h2, show (o == 44) = false from h3, show (o == 31) = false from h4, show (o == 58) = false from h5, show (o == 86) = false from h6, show (o == 19) = false from h7, show (o == 77) = false from h8, show (o == 82) = false from h9, show (o == 4) = false from h10, show (o == 8) = false from h11, show (o == 65) = false from h12, show (o == 64) = false from h13, show (o == 70) = true from h14, cond_true, cond_false]] at hK
    exact fin_k tt_ok (rs := rs_cpu_binary) rfl rfl hK [0] rfl rfl rfl rfl rfl rfl
  · rw [show binF o = some (137, some 63) by simp only [binF, show (o == 5) = false from h0, show (o == 12) = false from h1, show (o == 83) = false from h2, show (o == 44) = false from h3, show (o == 31) = false from h4, show (o == 58) = false from h5, show (o == 86) = false from h6, show (o == 19) = false from h7, show (o == 77) = false from h8, show (o == 82) = false from h9, show (o == 4) = false from h10, show (o == 8) = false from h11, show (o == 65) = false from h12, show (o == 64) = false from h13, show (o == 70) = false from h14, show (o == 75) = true from h15, cond_true, cond_false]] at hK
    exact fin_k tt_ok (rs := rs_cpu_binary) rfl rfl hK [0] rfl rfl rfl rfl rfl rfl
  · rw [show binF o = some (137, some 64) by simp only [binF, show (o == 5) = false from h0, show (o == 12) = false from h1, show (o == 83) = false from h2, show (o == 44) = false from h3, show (o == 31) = false from h4, show (o == 58) = false from h5, show (o == 86) = false from h6, show (o == 19) = false from h7, show (o == 77) = false from h8, show (o == 82) = false from h9, show (o == 4) = false from h10, show (o == 8) = false from h11, show (o == 65) = false from h12, show (o == 64) = false from h13, show (o == 70) = false from h14, show (o == 75) = false from h15, show (o == 51) = true from h16, cond_true, cond_false]] at hK
    exact fin_k tt_ok (rs := rs_cpu_binary) rfl rfl hK [0] rfl rfl rfl rfl rfl rfl
  · rw [show binF o = some (137, some 65) by simp only [binF, show (o == 5) = false from h0, show (o == 12) = false from h1, show (o == 83) = false from h2, show (o == 44) = false from h3, show (o == 31) = false from h4, show (o == 58) = false from h5, show (o == 86) = false from h6, show (o == 19) = false from h7, show (o == 77) = false from h8, show (o == 82) = false from h9, show (o == 4) = false from h10, show (o == 8) = false from h11, show (o == 65) = false from h12, show (o == 64) = false from h13, show (o == 70) = false from h14, show (o == 75) = false from h15, show (o == 51) = false from h16, show (o == 9) = true from h17, cond_true, cond_false]] at hK
    exact fin_k tt_ok (rs := rs_cpu_binary) rfl rfl hK [0] rfl rfl rfl rfl rfl rfl
  · rw [show binF o = some (137, some 66) by simp only [binF, show (o == 5) = false from h0, show (o == 12) = false from h1, show (o == 83) = false from h2, show (o == 44) = false from h3, show (o == 31) = false from h4, show (o == 58) = false from h5, show (o == 86) = false from h6, show (o == 19) = false from h7, show (o == 77) = false from h8, show (o == 82) = false from h9, show (o == 4) = false from h10, show (o == 8) = false from h11, show (o == 65) = false from h12, show (o == 64) = false from h13, show (o == 70) = false from h14, show (o == 75) = false from h15, show (o == 51) = false from h16, show (o == 9) = false from h17, show (o == 2) = true from h18, cond_true, cond_false]] at hK
    exact fin_k tt_ok (rs := rs_cpu_binary) rfl rfl hK [0] rfl rfl rfl rfl rfl rfl
  · rw [show binF o = some (137, some 68) by simp only [binF, show (o == 5) = false from h0, show (o == 12) = false from h1, show (o == 83) = false from h2, show (o == 44) = false from h3, show (o == 31) = false from h4, show (o == 58) = false from h5, show (o == 86) = false from h6, show (o == 19) = false from h7, show (o == 77) = false from h8, show (o == 82) = false from h9, show (o == 4) = false from h10, show (o == 8) = false from h11, show (o == 65) = false from h12, show (o == 64) = false from h13, show (o == 70) = false from h14, show (o == 75) = false from h15, show (o == 51) = false from h16, show (o == 9) = false from h17, show (o == 2) = false from h18, show (o == 10) = true from h19, cond_true, cond_false]] at hK
    exact fin_k tt_ok (rs := rs_cpu_binary) rfl rfl hK [0] rfl rfl rfl rfl rfl rfl
  · rw [show binF o = none by simp only [binF, show (o == 5) = false from h0, show (o == 12) = false from h1, show (o == 83) = false from h2, show (o == 44) = false from h3, show (o == 31) = false from h4, show (o == 58) = false from h5, show (o == 86) = false from h6, show (o == 19) = false from h7, show (o == 77) = false from h8, show (o == 82) = false from h9, show (o == 4) = false from h10, show (o == 8) = false from h11, show (o == 65) = false from h12, show (o == 64) = false from h13, show (o == 70) = false from h14, show (o == 75) = false from h15, show (o == 51) = false from h16, show (o == 9) = false from h17, show (o == 2) = false from h18, show (o == 10) = false from h19, cond_false]] at hK
    exact fin_k tt_ok (rs := rs_cpu_binary) rfl rfl hK [] rfl rfl rfl rfl rfl rfl

noncomputable abbrev eBinary : Ent := .st (conS (P := Tryz.prog) (f := f_cpu_binary) fun cargs σ0 => match cargs, σ0 with
  | [.s (.int .i32 o)], [] => some ⟨.ex (Option (Nat × Option Nat)) fun r => .ask (binF o = r) (binOut r), fun K h => by
      obtain ⟨r, h1, h⟩ := h
      subst h1
      exact binary_c o K h⟩
  | _, _ => none)
def isBin (o : Int) : Bool := o == 5 || o == 12 || o == 83 || o == 44 || o == 31 || o == 58 || o == 86 || o == 19 || o == 77 || o == 82 || o == 4 || o == 8 || o == 65 || o == 64 || o == 70 || o == 75 || o == 51 || o == 9 || o == 2 || o == 10
def isOth (o : Int) : Bool := o == 0 || o == 50 || o == 52 || o == 63 || o == 66 || o == 27 || o == 22 || o == 56 || o == 55 || o == 79 || o == 49 || o == 26 || o == 54 || o == 53 || o == 25 || o == 29 || o == 76 || o == 1 || o == 59 || o == 74 || o == 6 || o == 60 || o == 32 || o == 33 || o == 16 || o == 41 || o == 87 || o == 88 || o == 89
def othF (o : Int) : Option TV := bif o == 0 then some (.clo (.func 70) [] []) else bif o == 50 then some (.clo (.func 71) [] []) else bif o == 52 then some (.clo (.func 72) [] []) else bif o == 63 then some (.clo (.func 73) [] []) else bif o == 66 then some (.clo (.func 74) [] []) else bif o == 27 then some (.clo (.func 75) [] []) else bif o == 22 then some (.clo (.func 76) [] []) else bif o == 56 then some (.clo (.func 77) [] []) else bif o == 55 then some (.clo (.func 78) [] []) else bif o == 79 then some (.clo (.func 79) [] []) else bif o == 49 then some (.clo (.func 80) [] []) else bif o == 26 then some (.clo (.func 81) [] []) else bif o == 54 then some (.clo (.func 82) [] []) else bif o == 53 then some (.clo (.func 83) [] []) else bif o == 25 then some (.clo (.func 84) [] []) else bif o == 29 then some (.clo (.func 85) [] []) else bif o == 76 then some (.clo (.func 86) [] []) else bif o == 1 then some (.clo (.func 87) [] []) else bif o == 59 then some (.clo (.func 88) [] []) else bif o == 74 then some (.clo (.func 89) [] []) else bif o == 6 then some (.clo (.func 90) [] []) else bif o == 60 then some (.clo (.func 91) [] []) else bif o == 32 then some (.clo (.func 92) [] []) else bif o == 33 then some (.clo (.func 93) [] []) else bif o == 16 then some (.clo (.func 94) [] []) else bif o == 41 then some (.clo (.func 95) [] []) else bif o == 87 then some (.clo (.func 96) [] []) else bif o == 88 then some (.clo (.func 97) [] []) else bif o == 89 then some (.clo (.func 98) [] []) else  none

def mineB (fn o : Int) : Bool := bif fn != 15 then (bif (bif decide (fn < 15) then fn != 2 else false) then fn != 6 else false) else (isBin o || isOth o)
theorem binF_none {o : Int} (h : isBin o = false) : binF o = none := by
  unfold isBin at h
  simp only [Bool.or_eq_false_iff] at h
  obtain ⟨⟨⟨⟨⟨⟨⟨⟨⟨⟨⟨⟨⟨⟨⟨⟨⟨⟨⟨h0, h1⟩, h2⟩, h3⟩, h4⟩, h5⟩, h6⟩, h7⟩, h8⟩, h9⟩, h10⟩, h11⟩, h12⟩, h13⟩, h14⟩, h15⟩, h16⟩, h17⟩, h18⟩, h19⟩ := h
  simp only [binF, h0, h1, h2, h3, h4, h5, h6, h7, h8, h9, h10, h11, h12, h13, h14, h15, h16, h17, h18, h19, cond_false]
theorem bin_cases {o : Int} (h : isBin o = true) : o = 5 ∨ o = 12 ∨ o = 83 ∨ o = 44 ∨ o = 31 ∨ o = 58 ∨ o = 86 ∨ o = 19 ∨ o = 77 ∨ o = 82 ∨ o = 4 ∨ o = 8 ∨ o = 65 ∨ o = 64 ∨ o = 70 ∨ o = 75 ∨ o = 51 ∨ o = 9 ∨ o = 2 ∨ o = 10 := by
  unfold isBin at h
  simpa [or_assoc] using h
theorem oth_cases {o : Int} (h : isOth o = true) : o = 0 ∨ o = 50 ∨ o = 52 ∨ o = 63 ∨ o = 66 ∨ o = 27 ∨ o = 22 ∨ o = 56 ∨ o = 55 ∨ o = 79 ∨ o = 49 ∨ o = 26 ∨ o = 54 ∨ o = 53 ∨ o = 25 ∨ o = 29 ∨ o = 76 ∨ o = 1 ∨ o = 59 ∨ o = 74 ∨ o = 6 ∨ o = 60 ∨ o = 32 ∨ o = 33 ∨ o = 16 ∨ o = 41 ∨ o = 87 ∨ o = 88 ∨ o = 89 := by
  unfold isOth at h
  simpa [or_assoc] using h

end Go.Proofs
