/- The reference's two and long (printed by gen28p.py). -/
import Derived.Test.YtgmjidajikhimaaGreatWalkE
import Derived.Test.YtgmjidajikhimaaGreatWalkD

namespace Go.Proofs
open Go Go.Sx
set_option maxRecDepth 10000
theorem check_f (k : Core) : k.check false = k := by
  unfold Core.check; rw [show (bif k.err then true else false) = k.err by cases k.err <;> rfl]
theorem rtruth_c (b : Bool) : Con Tryz.prog f_r28_truth [.s (.bool b)] [] (.ret (.t (.s (.int .i32 (trI b)))) []) := by
  intro K hK
  refine enter fn_r28_truth rfl nt_r28_truth rfl rfl (fun φ w0 β0 F => ?_)
  refine c_run tt_ok (ct := []) trivial k_r28_truth [] 60 (by kernel_rfl) ?_
  refine ⟨fun h => ?_, fun h => ?_⟩
  · rw [show b = true from h] at hK
    exact fin_k tt_ok (rs := rs_r28_truth) rfl rfl hK [] rfl rfl rfl rfl rfl rfl
  · rw [show b = false from h] at hK
    exact fin_k tt_ok (rs := rs_r28_truth) rfl rfl hK [] rfl rfl rfl rfl rfl rfl
def spRTruth : List TV → Option (Prop × FV)
  | [.s (.bool b)] => some (True, .t (.s (.int .i32 (trI b))))
  | _ => none
theorem ceRTruth : CEok Tryz.prog f_r28_truth spRTruth := ⟨cal_r28_truth, fun args p v h hp => by
  unfold spRTruth at h; split at h
  · cases h; exact (rtruth_c _).pure
  · cases h⟩
theorem wsub_eq (a b : Int) (_ha : I32 a) (_hb : I32 b) : IntKind.i32.wrap (a + IntKind.i32.wrap (4 * b)) = Wd (IntKind.i64.wrap (IntKind.i64.wrap a + IntKind.i64.wrap (4 * IntKind.i64.wrap b))) := by
  simp only [IntKind.wrap_i32, IntKind.wrap_i64]; unfold Wd; unfold I32 at *; omega
theorem bsub_eq (a b : Int) : IntKind.i32.wrap (a + b) = Wd (b + a) := by
  simp only [IntKind.wrap_i32]; unfold Wd; omega
def Ram.z0 : Ram := ⟨List.replicate 1024 0, by simp, by simp, by simp, by intro b hb; rw [List.mem_replicate] at hb; omega⟩
def twoV (o b a : Int) : Int × Bool × Bool := bif isBin o then ((binV o b a).1, (binV o b a).2, true) else (0, false, false)
noncomputable abbrev ctTw : CT := [(f_r28_truth, .pure spRTruth), (f_r01_Wrap, .pure spRWrap), (f_r01_Add, .pure sprAdd), (f_r01_Sub, .pure sprSub), (f_r01_Mul, .pure sprMul), (f_r01_Div, .pure sprDiv), (f_r01_Rem, .pure sprRem), (f_r01_Shl, .pure sprShl), (f_r01_Shr, .pure sprShr), (f_r01_Xword, .pure sprXword), (f_r01_Cword, .pure sprCword), (f_r01_Csub0, .pure sprCsub0), (f_r01_Ccnt1, .pure sprCcnt1)]
theorem ctTw_ok : CTok Tryz.prog ctTw := ⟨ceRTruth, ceRWrap, cerAdd, cerSub, cerMul, cerDiv, cerRem, cerShl, cerShr, cerXword, cerCword, cerCsub0, cerCcnt1, trivial⟩
set_option maxHeartbeats 2000000 in
theorem two_c (o b a : Int) (hb : I32 b) (ha : I32 a) : Con Tryz.prog f_r28_two [.s (.int .i32 o), .s (.int .i32 b), .s (.int .i32 a)] [] (.ret (.tup [.s (.int .i32 (twoV o b a).1), .s (.bool (twoV o b a).2.1), .s (.bool (twoV o b a).2.2)]) []) := by
  intro K hK
  refine enter fn_r28_two rfl nt_r28_two rfl rfl (fun φ w0 β0 F => ?_)
  refine c_run tt_ok ctTw_ok k_r28_two [] 120 (by kernel_rfl) ?_
  refine ⟨fun h5 => ?_, fun h5 => ⟨fun h12 => ?_, fun h12 => ⟨fun h83 => ?_, fun h83 => ⟨fun h44 => ?_, fun h44 => ⟨fun h31 => ?_, fun h31 => ⟨fun h82 => ⟨fun _ => ?_, fun h' => absurd (h82.symm.trans h') (by decide)⟩, fun h82 => ⟨fun h2 => ?_, fun h2 => ⟨fun h4 => ?_, fun h4 => ⟨fun h8 => ?_, fun h8 => ⟨fun h70 => ?_, fun h70 => ⟨fun h75 => ?_, fun h75 => ⟨fun h51 => ?_, fun h51 => ⟨fun h65 => ?_, fun h65 => ⟨fun h64 => ?_, fun h64 => ⟨fun h9 => ?_, fun h9 => ⟨fun h10 => ?_, fun h10 => ⟨fun h58 => ?_, fun h58 => ⟨fun h86 => ?_, fun h86 => ⟨fun h19 => ?_, fun h19 => ⟨fun h77 => ?_, fun h77 => ?_⟩⟩⟩⟩⟩⟩⟩⟩⟩⟩⟩⟩⟩⟩⟩⟩⟩⟩⟩⟩
  · have e : o = 5 := eq_of_beq (show (o == 5) = true from h5)
    subst e
    refine ⟨⟨hb, ha⟩, ?_⟩
    exact fin_k tt_ok (rs := rs_r28_two) rfl rfl hK [] rfl rfl rfl rfl rfl rfl
  · have e : o = 12 := eq_of_beq (show (o == 12) = true from h12)
    subst e
    refine ⟨⟨hb, ha⟩, ?_⟩
    exact fin_k tt_ok (rs := rs_r28_two) rfl rfl hK [] rfl rfl rfl rfl rfl rfl
  · have e : o = 83 := eq_of_beq (show (o == 83) = true from h83)
    subst e
    refine ⟨⟨hb, ha⟩, ?_⟩
    exact fin_k tt_ok (rs := rs_r28_two) rfl rfl hK [] rfl rfl rfl rfl rfl rfl
  · have e : o = 44 := eq_of_beq (show (o == 44) = true from h44)
    subst e
    refine ⟨⟨hb, ha⟩, ?_⟩
    exact fin_k tt_ok (rs := rs_r28_two) rfl rfl hK [] rfl rfl rfl rfl rfl rfl
  · have e : o = 31 := eq_of_beq (show (o == 31) = true from h31)
    subst e
    refine ⟨⟨hb, ha⟩, ?_⟩
    exact fin_k tt_ok (rs := rs_r28_two) rfl rfl hK [] rfl rfl rfl rfl rfl rfl
  · have e : o = 82 := eq_of_beq (show (o == 82) = true from h82)
    subst e
    refine ⟨⟨hb, ha⟩, ?_⟩
    exact fin_k tt_ok (rs := rs_r28_two) rfl rfl hK [] rfl rfl rfl rfl rfl rfl
  · have e : o = 2 := eq_of_beq (show (o == 2) = true from h2)
    subst e
    refine ⟨⟨hb, ha⟩, ?_⟩
    rw [show twoV 2 b a = (IntKind.i32.wrap (a + b), false, true) from rfl, bsub_eq] at hK
    exact fin_k tt_ok (rs := rs_r28_two) rfl rfl hK [] rfl rfl rfl rfl rfl rfl
  · have e : o = 4 := eq_of_beq (show (o == 4) = true from h4)
    subst e
    refine ⟨⟨hb, ha⟩, ?_⟩
    exact fin_k tt_ok (rs := rs_r28_two) rfl rfl hK [] rfl rfl rfl rfl rfl rfl
  · have e : o = 8 := eq_of_beq (show (o == 8) = true from h8)
    subst e
    refine ⟨⟨hb, ha⟩, ?_⟩
    exact fin_k tt_ok (rs := rs_r28_two) rfl rfl hK [] rfl rfl rfl rfl rfl rfl
  · have e : o = 70 := eq_of_beq (show (o == 70) = true from h70)
    subst e
    exact fin_k tt_ok (rs := rs_r28_two) rfl rfl hK [] rfl rfl rfl rfl rfl rfl
  · have e : o = 75 := eq_of_beq (show (o == 75) = true from h75)
    subst e
    exact fin_k tt_ok (rs := rs_r28_two) rfl rfl hK [] rfl rfl rfl rfl rfl rfl
  · have e : o = 51 := eq_of_beq (show (o == 51) = true from h51)
    subst e
    exact fin_k tt_ok (rs := rs_r28_two) rfl rfl hK [] rfl rfl rfl rfl rfl rfl
  · have e : o = 65 := eq_of_beq (show (o == 65) = true from h65)
    subst e
    refine ⟨⟨hb, ha⟩, ?_⟩
    exact fin_k tt_ok (rs := rs_r28_two) rfl rfl hK [] rfl rfl rfl rfl rfl rfl
  · have e : o = 64 := eq_of_beq (show (o == 64) = true from h64)
    subst e
    refine ⟨⟨hb, ha⟩, ?_⟩
    exact fin_k tt_ok (rs := rs_r28_two) rfl rfl hK [] rfl rfl rfl rfl rfl rfl
  · have e : o = 9 := eq_of_beq (show (o == 9) = true from h9)
    subst e
    refine ⟨trivial, ?_⟩
    exact fin_k tt_ok (rs := rs_r28_two) rfl rfl hK [] rfl rfl rfl rfl rfl rfl
  · have e : o = 10 := eq_of_beq (show (o == 10) = true from h10)
    subst e
    refine ⟨⟨i64_lo _, i64_hi _⟩, ?_⟩
    rw [show twoV 10 b a = (IntKind.i32.wrap (a + IntKind.i32.wrap (4 * b)), false, true) from rfl, wsub_eq a b ha hb] at hK
    exact fin_k tt_ok (rs := rs_r28_two) rfl rfl hK [] rfl rfl rfl rfl rfl rfl
  · have e : o = 58 := eq_of_beq (show (o == 58) = true from h58)
    subst e
    refine ⟨⟨hb, ha⟩, ?_⟩
    exact fin_k tt_ok (rs := rs_r28_two) rfl rfl hK [] rfl rfl rfl rfl rfl rfl
  · have e : o = 86 := eq_of_beq (show (o == 86) = true from h86)
    subst e
    refine ⟨⟨hb, ha⟩, ?_⟩
    exact fin_k tt_ok (rs := rs_r28_two) rfl rfl hK [] rfl rfl rfl rfl rfl rfl
  · have e : o = 19 := eq_of_beq (show (o == 19) = true from h19)
    subst e
    refine ⟨⟨hb, ha⟩, ?_⟩
    exact fin_k tt_ok (rs := rs_r28_two) rfl rfl hK [] rfl rfl rfl rfl rfl rfl
  · have e : o = 77 := eq_of_beq (show (o == 77) = true from h77)
    subst e
    refine ⟨⟨hb, ha⟩, ?_⟩
    exact fin_k tt_ok (rs := rs_r28_two) rfl rfl hK [] rfl rfl rfl rfl rfl rfl
  · have hB : isBin o = false := by simp only [isBin, show (o == 5) = false from h5, show (o == 12) = false from h12, show (o == 83) = false from h83, show (o == 44) = false from h44, show (o == 31) = false from h31, show (o == 82) = false from h82, show (o == 2) = false from h2, show (o == 4) = false from h4, show (o == 8) = false from h8, show (o == 70) = false from h70, show (o == 75) = false from h75, show (o == 51) = false from h51, show (o == 65) = false from h65, show (o == 64) = false from h64, show (o == 9) = false from h9, show (o == 10) = false from h10, show (o == 58) = false from h58, show (o == 86) = false from h86, show (o == 19) = false from h19, show (o == 77) = false from h77, Bool.or_false]
    rw [show twoV o b a = (0, false, false) by simp only [twoV, hB, cond_false]] at hK
    exact fin_k tt_ok (rs := rs_r28_two) rfl rfl hK [] rfl rfl rfl rfl rfl rfl

def isLong (o : Int) : Bool := o == 22 || o == 56 || o == 55 || o == 79 || o == 49 || o == 26 || o == 54 || o == 53 || o == 25 || o == 29 || o == 76
def longV (o : Int) (k : Core) : Core × Bool := bif isLong o then ((othX o ⟨k, 0, Ram.z0⟩).k, true) else (k, false)
noncomputable abbrev ctLo : CT := [(f_r02_Add, .pure spRAdd), (f_r02_Sub, .pure spRSub), (f_r02_Sum, .pure spRSum), (f_r02_Diff, .pure spRDiff), (f_r02_Mul, .pure spRMul), (f_r02_Div, .pure spRDiv), (f_r02_Shl, .pure spRShl), (f_r02_Shr, .pure spRShr), (f_r02_Norm, .pure spRNorm), (f_r02_Xdble, .pure spRXdble), (f_r02_Csngl, .pure spRCsngl)]
theorem ctLo_ok : CTok Tryz.prog ctLo := ⟨ceRAdd, ceRSub, ceRSum, ceRDiff, ceRMul, ceRDiv, ceRShl, ceRShr, ceRNorm, ceRXdble, ceRCsngl, trivial⟩
set_option maxHeartbeats 4000000 in
theorem long_c (k : Core) (o : Int) (hok : k.ok) : Con Tryz.prog f_r28_long [.agg k.sv, .s (.int .i32 o)] [] (.ret (.tup [.agg (longV o k).1.sv, .s (.bool (longV o k).2)]) []) := by
  intro K hK
  refine enter fn_r28_long rfl nt_r28_long rfl rfl (fun φ w0 β0 F => ?_)
  refine c_run tt_ok ctLo_ok k_r28_long [] 120 (by kernel_rfl) ?_
  refine ⟨fun h22 => ?_, fun h22 => ⟨fun h56 => ?_, fun h56 => ⟨fun h55 => ?_, fun h55 => ⟨fun h79 => ?_, fun h79 => ⟨fun h49 => ?_, fun h49 => ⟨fun h26 => ?_, fun h26 => ⟨fun h54 => ?_, fun h54 => ⟨fun h53 => ?_, fun h53 => ⟨fun h25 => ?_, fun h25 => ⟨fun h29 => ?_, fun h29 => ⟨fun h76 => ?_, fun h76 => ?_⟩⟩⟩⟩⟩⟩⟩⟩⟩⟩⟩
  · have e : o = 22 := eq_of_beq (show (o == 22) = true from h22)
    subst e
    refine ⟨⟨hok.b, hok.a, hok.c⟩, ?_⟩
    rw [show longV 22 k = (k.o_ladd, true) from rfl] at hK
    exact fin_k tt_ok (rs := rs_r28_long) rfl rfl hK [] rfl rfl rfl rfl rfl rfl
  · have e : o = 56 := eq_of_beq (show (o == 56) = true from h56)
    subst e
    refine ⟨⟨hok.b, hok.a, hok.c⟩, ?_⟩
    rw [show longV 56 k = (k.o_lsub, true) from rfl] at hK
    exact fin_k tt_ok (rs := rs_r28_long) rfl rfl hK [] rfl rfl rfl rfl rfl rfl
  · have e : o = 55 := eq_of_beq (show (o == 55) = true from h55)
    subst e
    refine ⟨⟨hok.b, hok.a, hok.c⟩, ?_⟩
    rw [show longV 55 k = (k.o_lsum, true) from rfl, ← check_f k.o_lsum] at hK
    exact fin_k tt_ok (rs := rs_r28_long) rfl rfl hK [] rfl rfl rfl rfl rfl rfl
  · have e : o = 79 := eq_of_beq (show (o == 79) = true from h79)
    subst e
    refine ⟨⟨hok.b, hok.a, hok.c⟩, ?_⟩
    rw [show longV 79 k = (k.o_ldiff, true) from rfl, ← check_f k.o_ldiff] at hK
    exact fin_k tt_ok (rs := rs_r28_long) rfl rfl hK [] rfl rfl rfl rfl rfl rfl
  · have e : o = 49 := eq_of_beq (show (o == 49) = true from h49)
    subst e
    refine ⟨⟨hok.a, hok.b, hok.c⟩, ?_⟩
    rw [show longV 49 k = (k.o_lmul, true) from rfl, ← check_f k.o_lmul] at hK
    exact fin_k tt_ok (rs := rs_r28_long) rfl rfl hK [] rfl rfl rfl rfl rfl rfl
  · have e : o = 26 := eq_of_beq (show (o == 26) = true from h26)
    subst e
    refine ⟨⟨hok.c, hok.b, hok.a⟩, ?_⟩
    rw [show longV 26 k = (k.o_ldiv, true) from rfl] at hK
    exact fin_k tt_ok (rs := rs_r28_long) rfl rfl hK [] rfl rfl rfl rfl rfl rfl
  · have e : o = 54 := eq_of_beq (show (o == 54) = true from h54)
    subst e
    refine ⟨⟨hok.c, hok.b, hok.a⟩, ?_⟩
    rw [show longV 54 k = (k.o_lshl, true) from rfl, ← check_f k.o_lshl] at hK
    exact fin_k tt_ok (rs := rs_r28_long) rfl rfl hK [] rfl rfl rfl rfl rfl rfl
  · have e : o = 53 := eq_of_beq (show (o == 53) = true from h53)
    subst e
    refine ⟨⟨hok.c, hok.b, hok.a⟩, ?_⟩
    rw [show longV 53 k = (k.o_lshr, true) from rfl, ← check_f k.o_lshr] at hK
    exact fin_k tt_ok (rs := rs_r28_long) rfl rfl hK [] rfl rfl rfl rfl rfl rfl
  · have e : o = 25 := eq_of_beq (show (o == 25) = true from h25)
    subst e
    refine ⟨⟨hok.b, hok.a⟩, ?_⟩
    rw [show longV 25 k = (k.o_norm, true) from rfl, ← check_f k.o_norm] at hK
    exact fin_k tt_ok (rs := rs_r28_long) rfl rfl hK [] rfl rfl rfl rfl rfl rfl
  · have e : o = 29 := eq_of_beq (show (o == 29) = true from h29)
    subst e
    refine ⟨trivial, ?_⟩
    rw [show longV 29 k = (k.o_xdble, true) from rfl, ← check_f k.o_xdble] at hK
    exact fin_k tt_ok (rs := rs_r28_long) rfl rfl hK [] rfl rfl rfl rfl rfl rfl
  · have e : o = 76 := eq_of_beq (show (o == 76) = true from h76)
    subst e
    refine ⟨trivial, ?_⟩
    rw [show longV 76 k = (k.o_csngl, true) from rfl] at hK
    exact fin_k tt_ok (rs := rs_r28_long) rfl rfl hK [] rfl rfl rfl rfl rfl rfl
  · have hB : isLong o = false := by simp only [isLong, show (o == 22) = false from h22, show (o == 56) = false from h56, show (o == 55) = false from h55, show (o == 79) = false from h79, show (o == 49) = false from h49, show (o == 26) = false from h26, show (o == 54) = false from h54, show (o == 53) = false from h53, show (o == 25) = false from h25, show (o == 29) = false from h29, show (o == 76) = false from h76, Bool.or_false]
    rw [show longV o k = (k, false) by simp only [longV, hB, cond_false]] at hK
    exact fin_k tt_ok (rs := rs_r28_long) rfl rfl hK [] rfl rfl rfl rfl rfl rfl

def spTwo : List TV → Option (Prop × FV)
  | [.s (.int .i32 o), .s (.int .i32 b), .s (.int .i32 a)] => some (I32 b ∧ I32 a, .tup [.s (.int .i32 (twoV o b a).1), .s (.bool (twoV o b a).2.1), .s (.bool (twoV o b a).2.2)])
  | _ => none
theorem ceTwo : CEok Tryz.prog f_r28_two spTwo := ⟨cal_r28_two, fun args p v h hp => by
  unfold spTwo at h; split at h
  · cases h; exact (two_c _ _ _ hp.1 hp.2).pure
  · cases h⟩
def spLong : List TV → Option (Prop × FV)
  | [.agg cs, .s (.int .i32 o)] => withCore cs fun k _ => some (k.ok, .tup [.agg (longV o k).1.sv, .s (.bool (longV o k).2)])
  | _ => none
theorem ceLong : CEok Tryz.prog f_r28_long spLong := ⟨cal_r28_long, fun args p v h hp => by
  unfold spLong at h; split at h
  · obtain ⟨k, hk, h⟩ := withCore_some h
    cases h; subst hk; exact (long_c _ _ hp).pure
  · cases h⟩
end Go.Proofs

namespace Go.Proofs
open Go Go.Sx
set_option maxRecDepth 10000
theorem rpush_c (k : Core) (v : Int) : Con Tryz.prog f_r28_push [.agg k.sv, .s (.int .i32 v)] [] (.ret (.t (.agg (k.push v).sv)) []) := by
  intro K hK
  refine enter fn_r28_push rfl nt_r28_push rfl rfl (fun φ w0 β0 F => ?_)
  refine c_run tt_ok (ct := []) trivial k_r28_push [] 60 (by kernel_rfl) ?_
  exact fin_k tt_ok (rs := rs_r28_push) rfl rfl hK [] rfl rfl rfl rfl rfl rfl
def spRPush : List TV → Option (Prop × FV)
  | [.agg cs, .s (.int .i32 v)] => withCore cs fun k _ => some (True, .t (.agg (k.push v).sv))
  | _ => none
theorem ceRPush : CEok Tryz.prog f_r28_push spRPush := ⟨cal_r28_push, fun args p v h hp => by
  unfold spRPush at h; split at h
  · obtain ⟨k, hk, h⟩ := withCore_some h
    cases h; subst hk; exact (rpush_c _ _).pure
  · cases h⟩
theorem rpop_c (k : Core) : Con Tryz.prog f_r28_pop [.agg k.sv] [] (.ret (.t (.agg k.pop.sv)) []) := by
  intro K hK
  refine enter fn_r28_pop rfl nt_r28_pop rfl rfl (fun φ w0 β0 F => ?_)
  refine c_run tt_ok (ct := []) trivial k_r28_pop [] 60 (by kernel_rfl) ?_
  exact fin_k tt_ok (rs := rs_r28_pop) rfl rfl hK [] rfl rfl rfl rfl rfl rfl
def spRPop : List TV → Option (Prop × FV)
  | [.agg cs] => withCore cs fun k _ => some (True, .t (.agg k.pop.sv))
  | _ => none
theorem ceRPop : CEok Tryz.prog f_r28_pop spRPop := ⟨cal_r28_pop, fun args p v h hp => by
  unfold spRPop at h; split at h
  · obtain ⟨k, hk, h⟩ := withCore_some h
    cases h; subst hk; exact (rpop_c _).pure
  · cases h⟩
noncomputable abbrev ctWw : CT := [(f_r01_Wrap, .pure spRWrap)]
theorem ctWw_ok : CTok Tryz.prog ctWw := ⟨ceRWrap, trivial⟩
theorem rword_c (w n : Int) (_hw : I32 w) (_hn : I32 n) : Con Tryz.prog f_r28_word [.s (.int .i32 w), .s (.int .i32 n)] [] (.ret (.t (.s (.int .i32 (Wd (w + 4 * n))))) []) := by
  intro K hK
  refine enter fn_r28_word rfl nt_r28_word rfl rfl (fun φ w0 β0 F => ?_)
  refine c_run tt_ok ctWw_ok k_r28_word [] 60 (by kernel_rfl) ?_
  refine ⟨⟨i64_lo _, i64_hi _⟩, ?_⟩
  rw [show Wd (w + 4 * n) = Wd (IntKind.i64.wrap (IntKind.i64.wrap w + IntKind.i64.wrap (4 * IntKind.i64.wrap n))) by simp only [IntKind.wrap_i64]; unfold Wd; unfold I32 at *; omega] at hK
  exact fin_k tt_ok (rs := rs_r28_word) rfl rfl hK [] rfl rfl rfl rfl rfl rfl
def spRw : List TV → Option (Prop × FV)
  | [.s (.int .i32 w), .s (.int .i32 n)] => some (I32 w ∧ I32 n, .t (.s (.int .i32 (Wd (w + 4 * n)))))
  | _ => none
theorem ceRw : CEok Tryz.prog f_r28_word spRw := ⟨cal_r28_word, fun args p v h hp => by
  unfold spRw at h; split at h
  · cases h; exact (rword_c _ _ hp.1 hp.2).pure
  · cases h⟩
theorem and3_i32 (v : Int) : bits .and .i32 v 3 = v % 4 := by
  have e : bits .and .i32 v 3 = IntKind.i32.wrap ((BitVec.ofInt 32 v &&& BitVec.ofInt 32 3).toNat : Int) := rfl
  have e15 : (BitVec.ofInt 32 3).toNat = 2 ^ 2 - 1 := by decide
  rw [e, BitVec.toNat_and, BitVec.toNat_ofInt, e15, Nat.and_two_pow_sub_one_eq_mod, IntKind.wrap_i32]
  omega
theorem not_i32 {v : Int} (h : I32 v) : notI .i32 v = -1 - v := by
  have e : notI .i32 v = IntKind.i32.wrap ((BitVec.ofInt 32 (-1) ^^^ BitVec.ofInt 32 v).toNat : Int) := rfl
  rw [e, show BitVec.ofInt 32 (-1) = BitVec.allOnes 32 by decide, BitVec.allOnes_xor, BitVec.toNat_not, BitVec.toNat_ofInt, IntKind.wrap_i32]
  unfold I32 at h
  have h2 : ((2 ^ 32 - 1 - (v % ((2 ^ 32 : Nat) : Int)).toNat : Nat) : Int) = 4294967295 - v % 4294967296 := by omega
  rw [h2]; omega
theorem tdiv4' (z : Int) (h : z % 4 = 0) : z.tdiv 4 = z / 4 := by
  rcases Int.lt_or_le z 0 with h' | h'
  · have : z = -(-z) := by omega
    rw [this, Int.neg_tdiv, Int.tdiv_eq_ediv_of_nonneg (by omega), Int.neg_neg]; omega
  · exact Int.tdiv_eq_ediv_of_nonneg h'
theorem fdiv4 (n : Int) : n.fdiv (2 ^ min 2 IntKind.i32.bits) = n / 4 := Int.fdiv_eq_ediv_of_nonneg _ (by decide)
theorem wcnt_law {n t : Int} (hn : I32 n) (ht : t = n % 4) : IntKind.i32.wrap (IntKind.i64.wrap ((IntKind.i64.wrap (IntKind.i64.wrap n - IntKind.i64.wrap t)).tdiv 4)) = n / 4 := by
  unfold I32 at hn
  rw [wrap64 (n := n) (by omega) (by omega), wrap64 (n := t) (by omega) (by omega), wrap64 (n := n - t) (by omega) (by omega), tdiv4' _ (by omega), wrap64 (by omega) (by omega), IntKind.wrap_i32]
  omega
theorem RWcnt_c (n : Int) (hn : I32 n) : Con Tryz.prog f_r03_Wcnt [.s (.int .i32 n)] [] (.ret (.tup [.s (.int .i32 (n.fdiv (2 ^ min 2 IntKind.i32.bits))), .s (.int .i32 (bits .and .i32 n 3))]) []) := by
  intro K hK
  refine enter fn_r03_Wcnt rfl nt_r03_Wcnt rfl rfl (fun φ w0 β0 F => ?_)
  refine c_run tt_ok (ct := []) trivial k_r03_Wcnt [] 60 (by kernel_rfl) ?_
  have h3 := tmod4 n
  rw [fdiv4, and3_i32] at hK
  refine ⟨fun h => ?_, fun h => ?_⟩
  · have h' := of_decide_eq_true h
    have hw : IntKind.i32.wrap (n.tmod 4 + 4) = n % 4 := by
      rcases Int.lt_or_le n 0 with h4 | h4
      · have := h3.2 h4; rw [IntKind.wrap_i32]; omega
      · have := h3.1 h4; omega
    rw [← wcnt_law hn rfl, ← hw] at hK
    exact fin_k tt_ok (rs := rs_r03_Wcnt) rfl rfl hK [] rfl rfl rfl rfl rfl rfl
  · have h' := of_decide_eq_false h
    have ht : n.tmod 4 = n % 4 := by
      rcases Int.lt_or_le n 0 with h4 | h4
      · have := h3.2 h4; omega
      · exact h3.1 h4
    rw [← wcnt_law hn rfl, ← ht] at hK
    exact fin_k tt_ok (rs := rs_r03_Wcnt) rfl rfl hK [] rfl rfl rfl rfl rfl rfl
def spRWcnt : List TV → Option (Prop × FV)
  | [.s (.int .i32 n)] => some (I32 n, .tup [.s (.int .i32 (n.fdiv (2 ^ min 2 IntKind.i32.bits))), .s (.int .i32 (bits .and .i32 n 3))])
  | _ => none
theorem ceRWcnt : CEok Tryz.prog f_r03_Wcnt spRWcnt := ⟨cal_r03_Wcnt, fun args p v h hp => by
  unfold spRWcnt at h; split at h
  · cases h; exact (RWcnt_c _ hp).pure
  · cases h⟩
theorem bcnt_eq {a : Int} (_ha : I32 a) : IntKind.i32.wrap (4 * a) = Wd (IntKind.i64.wrap (4 * IntKind.i64.wrap a)) := by
  simp only [IntKind.wrap_i32, IntKind.wrap_i64]; unfold Wd; unfold I32 at *; omega
theorem ldpi_eq {a b : Int} (_ha : I32 a) (_hb : I32 b) : IntKind.i32.wrap (a + b) = Wd (IntKind.i64.wrap (IntKind.i64.wrap b + IntKind.i64.wrap a)) := by
  simp only [IntKind.wrap_i32, IntKind.wrap_i64]; unfold Wd; unfold I32 at *; omega
theorem gajw_eq {a : Int} (ha : I32 a) : bits .andNot .i32 a 3 = IntKind.i32.wrap (a - bits .and .i32 a 3) := by
  rw [andNot3_i32 ha, and3_i32, IntKind.wrap_i32]; unfold I32 at *; omega
theorem not_eq {a : Int} (ha : I32 a) : notI .i32 a = IntKind.i32.wrap (-1 - a) := by
  rw [not_i32 ha, IntKind.wrap_i32]; unfold I32 at *; omega

def isAlone (o : Int) : Bool := o == 0 || o == 50 || o == 52 || o == 63 || o == 66 || o == 27 || o == 6 || o == 60 || o == 16 || o == 41 || o == 87 || o == 88 || o == 89
def aloneV (o : Int) (k : Core) : Core := bif isAlone o then (othX o ⟨k, 0, Ram.z0⟩).k else k
noncomputable abbrev ctAl : CT := [(f_r28_truth, .pure spRTruth), (f_r28_push, .pure spRPush), (f_r01_Wrap, .pure spRWrap), (f_r03_Wcnt, .pure spRWcnt)]
theorem ctAl_ok : CTok Tryz.prog ctAl := ⟨ceRTruth, ceRPush, ceRWrap, ceRWcnt, trivial⟩
set_option maxHeartbeats 4000000 in
theorem alone_c (k : Core) (o : Int) (hok : k.ok) : Con Tryz.prog f_r28_alone [.agg k.sv, .s (.int .i32 o)] [] (.ret (.t (.agg (aloneV o k).sv)) []) := by
  intro K hK
  refine enter fn_r28_alone rfl nt_r28_alone rfl rfl (fun φ w0 β0 F => ?_)
  refine c_run tt_ok ctAl_ok k_r28_alone [] 120 (by kernel_rfl) ?_
  refine ⟨fun h0 => ?_, fun h0 => ⟨fun h50 => ?_, fun h50 => ⟨fun h52 => ?_, fun h52 => ⟨fun h63 => ?_, fun h63 => ⟨fun h66 => ?_, fun h66 => ⟨fun h27 => ?_, fun h27 => ⟨fun h6 => ?_, fun h6 => ⟨fun h60 => ?_, fun h60 => ⟨fun h16 => ?_, fun h16 => ⟨fun h41 => ?_, fun h41 => ⟨fun h87 => ?_, fun h87 => ⟨fun h88 => ?_, fun h88 => ⟨fun h89 => ?_, fun h89 => ?_⟩⟩⟩⟩⟩⟩⟩⟩⟩⟩⟩⟩⟩
  · have e : o = 0 := eq_of_beq (show (o == 0) = true from h0)
    subst e
    rw [show aloneV 0 k = k.rev from rfl] at hK
    exact fin_k tt_ok (rs := rs_r28_alone) rfl rfl hK [] rfl rfl rfl rfl rfl rfl
  · have e : o = 50 := eq_of_beq (show (o == 50) = true from h50)
    subst e
    rw [show aloneV 50 k = k.not from rfl, Core.not, not_eq hok.a] at hK
    exact fin_k tt_ok (rs := rs_r28_alone) rfl rfl hK [] rfl rfl rfl rfl rfl rfl
  · have e : o = 52 := eq_of_beq (show (o == 52) = true from h52)
    subst e
    rw [show aloneV 52 k = k.o_bcnt from rfl, Core.o_bcnt, bcnt_eq hok.a] at hK
    refine ⟨⟨i64_lo _, i64_hi _⟩, ?_⟩
    exact fin_k tt_ok (rs := rs_r28_alone) rfl rfl hK [] rfl rfl rfl rfl rfl rfl
  · have e : o = 63 := eq_of_beq (show (o == 63) = true from h63)
    subst e
    rw [show aloneV 63 k = k.o_wcnt from rfl] at hK
    refine ⟨hok.a, ?_⟩
    exact fin_k tt_ok (rs := rs_r28_alone) rfl rfl hK [] rfl rfl rfl rfl rfl rfl
  · have e : o = 66 := eq_of_beq (show (o == 66) = true from h66)
    subst e
    rw [show aloneV 66 k = k.o_mint from rfl] at hK
    refine ⟨trivial, ?_⟩
    exact fin_k tt_ok (rs := rs_r28_alone) rfl rfl hK [] rfl rfl rfl rfl rfl rfl
  · have e : o = 27 := eq_of_beq (show (o == 27) = true from h27)
    subst e
    rw [show aloneV 27 k = k.ldpi from rfl, Core.ldpi, ldpi_eq hok.a hok.iptr] at hK
    refine ⟨⟨i64_lo _, i64_hi _⟩, ?_⟩
    exact fin_k tt_ok (rs := rs_r28_alone) rfl rfl hK [] rfl rfl rfl rfl rfl rfl
  · have e : o = 6 := eq_of_beq (show (o == 6) = true from h6)
    subst e
    rw [show aloneV 6 k = k.gcall from rfl] at hK
    exact fin_k tt_ok (rs := rs_r28_alone) rfl rfl hK [] rfl rfl rfl rfl rfl rfl
  · have e : o = 60 := eq_of_beq (show (o == 60) = true from h60)
    subst e
    rw [show aloneV 60 k = k.gajw from rfl, Core.gajw, gajw_eq hok.a] at hK
    refine ⟨hok.a, ?_⟩
    exact fin_k tt_ok (rs := rs_r28_alone) rfl rfl hK [] rfl rfl rfl rfl rfl rfl
  · have e : o = 16 := eq_of_beq (show (o == 16) = true from h16)
    subst e
    rw [show aloneV 16 k = k.seterr from rfl] at hK
    exact fin_k tt_ok (rs := rs_r28_alone) rfl rfl hK [] rfl rfl rfl rfl rfl rfl
  · have e : o = 41 := eq_of_beq (show (o == 41) = true from h41)
    subst e
    rw [show aloneV 41 k = k.o_testerr from rfl] at hK
    refine c_ways tt_ok ctAl_ok k_r28_alone rfl rfl ?_
    repeat' (first | exact trivial | (refine And.intro ?_ ?_) | (refine fun _ => ?_))
    all_goals
      refine e_run tt_ok ctAl_ok k_r28_alone [] 90 (by kernel_rfl) ?_
      exact fin_k tt_ok (rs := rs_r28_alone) rfl rfl hK [] rfl rfl rfl rfl rfl rfl
  · have e : o = 87 := eq_of_beq (show (o == 87) = true from h87)
    subst e
    rw [show aloneV 87 k = k.clrh from rfl] at hK
    exact fin_k tt_ok (rs := rs_r28_alone) rfl rfl hK [] rfl rfl rfl rfl rfl rfl
  · have e : o = 88 := eq_of_beq (show (o == 88) = true from h88)
    subst e
    rw [show aloneV 88 k = k.seth from rfl] at hK
    exact fin_k tt_ok (rs := rs_r28_alone) rfl rfl hK [] rfl rfl rfl rfl rfl rfl
  · have e : o = 89 := eq_of_beq (show (o == 89) = true from h89)
    subst e
    rw [show aloneV 89 k = k.o_testhalterr from rfl] at hK
    refine c_ways tt_ok ctAl_ok k_r28_alone rfl rfl ?_
    repeat' (first | exact trivial | (refine And.intro ?_ ?_) | (refine fun _ => ?_))
    all_goals
      refine e_run tt_ok ctAl_ok k_r28_alone [] 90 (by kernel_rfl) ?_
      exact fin_k tt_ok (rs := rs_r28_alone) rfl rfl hK [] rfl rfl rfl rfl rfl rfl
  · have hB : isAlone o = false := by simp only [isAlone, show (o == 0) = false from h0, show (o == 50) = false from h50, show (o == 52) = false from h52, show (o == 63) = false from h63, show (o == 66) = false from h66, show (o == 27) = false from h27, show (o == 6) = false from h6, show (o == 60) = false from h60, show (o == 16) = false from h16, show (o == 41) = false from h41, show (o == 87) = false from h87, show (o == 88) = false from h88, show (o == 89) = false from h89, Bool.or_false]
    rw [show aloneV o k = k by simp only [aloneV, hB, cond_false]] at hK
    exact fin_k tt_ok (rs := rs_r28_alone) rfl rfl hK [] rfl rfl rfl rfl rfl rfl

def spAlone : List TV → Option (Prop × FV)
  | [.agg cs, .s (.int .i32 o)] => withCore cs fun k _ => some (k.ok, .t (.agg (aloneV o k).sv))
  | _ => none
theorem ceAlone : CEok Tryz.prog f_r28_alone spAlone := ⟨cal_r28_alone, fun args p v h hp => by
  unfold spAlone at h; split at h
  · obtain ⟨k, hk, h⟩ := withCore_some h
    cases h; subst hk; exact (alone_c _ _ hp).pure
  · cases h⟩
end Go.Proofs

namespace Go.Proofs
open Go Go.Sx
set_option maxRecDepth 10000
def Core.w7 (k : Core) (a b c i w : Int) (e h : Bool) : Core := { k with a := a, b := b, c := c, iptr := i, wptr := w, err := e, hoe := h }
structure Good (t : Bool) (k k' : Core) : Prop where
  ok : k'.ok
  rest : k' = k.w7 k'.a k'.b k'.c k'.iptr k'.wptr k'.err k'.hoe
  err : t = false → k.err = true → k'.err = true
theorem Good.mk5 {t : Bool} {k k' : Core} (h : k.ok) (r : k' = k.w7 k'.a k'.b k'.c k'.iptr k'.wptr k'.err k'.hoe) (e : t = false → k.err = true → k'.err = true) (a : I32 k'.a) (b : I32 k'.b) (c : I32 k'.c) (i : I32 k'.iptr) (w : I32 k'.wptr) : Good t k k' := by
  refine ⟨?_, r, e⟩
  rw [r]
  exact ⟨a, b, c, i, w, h.6, h.7, h.8, h.9, h.10, h.11, h.12, h.13, h.14, h.15, h.16, h.17, h.18, h.19, h.20, h.21, h.22⟩
theorem i32_00 : I32 0 := ⟨by decide, by decide⟩
theorem i32_and (a b : Int) : I32 (bits .and .i32 a b) := I32_wrap _
theorem i32_or (a b : Int) : I32 (bits .or .i32 a b) := I32_wrap _
theorem i32_xor (a b : Int) : I32 (bits .xor .i32 a b) := I32_wrap _
theorem i32_andNot (a b : Int) : I32 (bits .andNot .i32 a b) := I32_wrap _
theorem i32_tr (b : Bool) : I32 (trI b) := by cases b <;> (unfold I32 trI; decide)
theorem i32_mod2 (a b c : Int) : I32 (lgSumC a b c) := by unfold lgSumC Uw I32; omega
theorem i32_dif2 (a b c : Int) : I32 (lgDiffC a b c) := by unfold lgDiffC Uw I32; omega
theorem i32_sign (a : Int) : I32 (lgSign a) := by unfold lgSign I32; split <;> omega
theorem i32_lz {a : Int} (h : a < 18446744073709551616) : I32 (lzN a) := by
  unfold lzN I32
  split
  · omega
  · have h2 : Nat.log2 a.toNat < 64 := by
      rcases Nat.eq_zero_or_pos a.toNat with h0 | h0
      · rw [h0]; decide
      · exact (Nat.log2_lt (by omega)).2 (by omega)
    omega
theorem Dv_lt (a b : Int) : Dv a b < 18446744073709551616 := by unfold Dv Uw; omega
theorem i32_fdiv4 {a : Int} (h : I32 a) : I32 (a.fdiv (2 ^ min 2 IntKind.i32.bits)) := by rw [fdiv4]; unfold I32 at *; omega
theorem i32_tdiv {a b : Int} (ha : I32 a) (hb : I32 b) (h : (bif b == 0 then true else bif a == -2147483648 then b == -1 else false) = false) : I32 (a.tdiv b) := by
  have hb0 : b ≠ 0 := by intro e; subst e; simp at h
  have hn : ¬ (a = -2147483648 ∧ b = -1) := by rintro ⟨rfl, rfl⟩; simp at h
  have h1 : (a.tdiv b).natAbs = a.natAbs / b.natAbs := by rw [Int.natAbs_tdiv]; rfl
  have h2 : a.natAbs / b.natAbs ≤ a.natAbs := Nat.div_le_self _ _
  unfold I32 at *
  by_cases hm : a.tdiv b = 2147483648
  · exfalso
    have h3 : a.natAbs = 2147483648 := by omega
    have ha' : a = -2147483648 := by omega
    subst ha'
    have h4 : (2147483648 : Nat) / b.natAbs = 2147483648 := by rw [← show ((-2147483648 : Int)).natAbs = 2147483648 from rfl, ← h1, hm]; decide
    have h5 : b.natAbs = 1 := by
      rcases Nat.lt_or_ge 1 b.natAbs with g | g
      · have : (2147483648 : Nat) / b.natAbs < 2147483648 := Nat.div_lt_self (by decide) g
        omega
      · omega
    have : b = 1 ∨ b = -1 := by omega
    rcases this with rfl | rfl
    · simp at hm
    · exact hn ⟨rfl, rfl⟩
  · omega
theorem i32_tmod {a b : Int} (ha : I32 a) : I32 (a.tmod b) := by
  have h1 : (a.tmod b).natAbs = a.natAbs % b.natAbs := by rw [Int.natAbs_tmod]
  have h2 : a.natAbs % b.natAbs ≤ a.natAbs := Nat.mod_le _ _
  have h3 := Int.tmod_nonneg b (a := a)
  unfold I32 at *
  rcases Int.lt_or_le a 0 with h | h
  · have : a.tmod b = -((-a).tmod b) := by rw [Int.neg_tmod, Int.neg_neg]
    have := Int.tmod_nonneg b (show 0 ≤ -a by omega)
    omega
  · have := h3 h; omega
theorem i32_dvQ (a b c : Int) : I32 (dvQ a b c) := by unfold dvQ; cases lgDivO a c <;> first | exact i32_00 | exact I32_Wd _
theorem i32_dvR (a b c : Int) : I32 (dvR a b c) := by unfold dvR; cases lgDivO a c <;> first | exact i32_00 | exact I32_Wd _
theorem i32_normH (a b : Int) : I32 (lgNormH a b) := by unfold lgNormH; split <;> first | exact i32_00 | exact I32_Wd _
theorem i32_norm (a b : Int) : I32 (lgNorm a b) := by unfold lgNorm; split <;> first | exact i32_00 | exact I32_Wd _
theorem i32_shl (a b : Int) : I32 (shlS a b) := by unfold shlS; cases decide (Uw b > 31) <;> first | exact i32_00 | exact I32_Wd _
theorem i32_min : I32 (-2147483648) := by unfold I32; decide
theorem i32_bit {b : Bool} {x y : Int} (h : b = false → I32 y) (g : I32 x) : I32 (bif b then x else y) := by cases b <;> first | exact h rfl | exact g
theorem pick {α : Type} {P : α → Prop} {c : Bool} {x y : α} (hx : c = true → P x) (hy : c = false → P y) : P (bif c then x else y) := by cases c <;> first | exact hy rfl | exact hx rfl

set_option maxHeartbeats 1000000 in
theorem binV_I32 {o b a : Int} (hb : I32 b) (ha : I32 a) : I32 (binV o b a).1 := by
  unfold binV
  exact pick (P := fun p : Int × Bool => I32 p.1) (fun _ => I32_Wd _) fun _ => pick (P := fun p : Int × Bool => I32 p.1) (fun _ => I32_Wd _) fun _ => pick (P := fun p : Int × Bool => I32 p.1) (fun _ => I32_Wd _) fun _ => pick (P := fun p : Int × Bool => I32 p.1) (fun _ => i32_bit (fun g => i32_tdiv hb ha g) i32_00) fun _ => pick (P := fun p : Int × Bool => I32 p.1) (fun _ => i32_bit (fun _ => i32_tmod hb) i32_00) fun _ => pick (P := fun p : Int × Bool => I32 p.1) (fun _ => i32_bit (fun _ => I32_Wd _) hb) fun _ => pick (P := fun p : Int × Bool => I32 p.1) (fun _ => hb) fun _ => pick (P := fun p : Int × Bool => I32 p.1) (fun _ => hb) fun _ => pick (P := fun p : Int × Bool => I32 p.1) (fun _ => hb) fun _ => pick (P := fun p : Int × Bool => I32 p.1) (fun _ => I32_Wd _) fun _ => pick (P := fun p : Int × Bool => I32 p.1) (fun _ => I32_Wd _) fun _ => pick (P := fun p : Int × Bool => I32 p.1) (fun _ => I32_Wd _) fun _ => pick (P := fun p : Int × Bool => I32 p.1) (fun _ => i32_shl _ _) fun _ => pick (P := fun p : Int × Bool => I32 p.1) (fun _ => I32_Wd _) fun _ => pick (P := fun p : Int × Bool => I32 p.1) (fun _ => i32_and _ _) fun _ => pick (P := fun p : Int × Bool => I32 p.1) (fun _ => i32_or _ _) fun _ => pick (P := fun p : Int × Bool => I32 p.1) (fun _ => i32_xor _ _) fun _ => pick (P := fun p : Int × Bool => I32 p.1) (fun _ => i32_tr _) fun _ => pick (P := fun p : Int × Bool => I32 p.1) (fun _ => I32_wrap _) fun _ => pick (P := fun p : Int × Bool => I32 p.1) (fun _ => I32_wrap _) fun _ => i32_00
theorem check_good {t : Bool} {k k' : Core} {o : Bool} (h : Good t k k') : Good t k (k'.check o) :=
  ⟨⟨h.1.1, h.1.2, h.1.3, h.1.4, h.1.5, h.1.6, h.1.7, h.1.8, h.1.9, h.1.10, h.1.11, h.1.12, h.1.13, h.1.14, h.1.15, h.1.16, h.1.17, h.1.18, h.1.19, h.1.20, h.1.21, h.1.22⟩, by
    have e : k'.check o = k'.w7 k'.a k'.b k'.c k'.iptr k'.wptr (k'.check o).err k'.hoe := rfl
    rw [e]; conv => lhs; rw [h.rest]
    rfl, fun h1 h2 => by show (bif k'.err then true else o) = true; rw [h.err h1 h2]; rfl⟩
theorem push_good {t : Bool} {k : Core} {v : Int} (h : k.ok) (hv : I32 v) : Good t k (k.push v) := .mk5 h rfl (fun _ e => e) hv h.a h.b h.iptr h.wptr
theorem binK_good {t : Bool} {o : Int} {k : Core} (h : k.ok) : Good t k (binK o k) := check_good (.mk5 h rfl (fun _ e => e) (binV_I32 h.b h.a) h.c h.c h.iptr h.wptr)
theorem lend_good {t : Bool} {k : Core} {e : Int} {m : Ram} (h : k.ok) : Good t k (Mach.lend ⟨k, e, m⟩).k := by
  unfold Mach.lend
  dsimp only
  refine pick (P := fun x : Mach => Good t k x.k) (fun _ => .mk5 h rfl (fun _ e => e) h.a h.b h.c h.iptr h.wptr) fun _ => ?_
  refine pick (P := fun x : Mach => Good t k x.k) (fun _ => .mk5 h rfl (fun _ e => e) h.a h.b h.c (I32_wrap _) h.wptr) (fun _ => .mk5 h rfl (fun _ e => e) h.a h.b h.c h.iptr h.wptr)
theorem call_good {t : Bool} {k : Core} {e n : Int} {m : Ram} (h : k.ok) : Good t k (Mach.call ⟨k, e, m⟩ n).k := by
  unfold Mach.call
  dsimp only
  exact pick (P := fun x : Mach => Good t k x.k) (fun _ => .mk5 h rfl (fun _ e => e) h.a h.b h.c h.iptr h.wptr) (fun _ => .mk5 h rfl (fun _ e => e) h.iptr h.b h.c (I32_wrap _) (I32_wrap _))
theorem fn_good {t : Bool} {k : Core} {e f n : Int} {m : Ram} (h : k.ok) (hn : I32 n) : Good t k (Mach.fn ⟨k, e, m⟩ f n).k := by
  unfold Mach.fn
  dsimp only
  refine pick (P := fun x : Mach => Good t k x.k) (fun _ => .mk5 h rfl (fun _ e => e) h.a h.b h.c (I32_wrap _) h.wptr) fun _ => ?_
  refine pick (P := fun x : Mach => Good t k x.k) (fun _ => push_good h (I32_wrap _)) fun _ => ?_
  refine pick (P := fun x : Mach => Good t k x.k) (fun _ => .mk5 h rfl (fun _ e => e) (word_I32 _ _) h.b h.c h.iptr h.wptr) fun _ => ?_
  refine pick (P := fun x : Mach => Good t k x.k) (fun _ => push_good h hn) fun _ => ?_
  refine pick (P := fun x : Mach => Good t k x.k) (fun _ => .mk5 h rfl (fun _ e => e) (I32_wrap _) h.b h.c h.iptr h.wptr) fun _ => ?_
  refine pick (P := fun x : Mach => Good t k x.k) (fun _ => push_good h (word_I32 _ _)) fun _ => ?_
  refine pick (P := fun x : Mach => Good t k x.k) (fun _ => check_good (.mk5 h rfl (fun _ e => e) (I32_Wd _) h.b h.c h.iptr h.wptr)) fun _ => ?_
  refine pick (P := fun x : Mach => Good t k x.k) (fun _ => call_good h) fun _ => ?_
  refine pick (P := fun x : Mach => Good t k x.k) (fun _ => pick (P := fun x : Mach => Good t k x.k) (fun _ => .mk5 h rfl (fun _ e => e) h.a h.b h.c (I32_wrap _) h.wptr) (fun _ => .mk5 h rfl (fun _ e => e) h.b h.c h.c h.iptr h.wptr)) fun _ => ?_
  refine pick (P := fun x : Mach => Good t k x.k) (fun _ => .mk5 h rfl (fun _ e => e) h.a h.b h.c h.iptr (I32_wrap _)) fun _ => ?_
  refine pick (P := fun x : Mach => Good t k x.k) (fun _ => .mk5 h rfl (fun _ e => e) (i32_tr _) h.b h.c h.iptr h.wptr) fun _ => ?_
  refine pick (P := fun x : Mach => Good t k x.k) (fun _ => .mk5 h rfl (fun _ e => e) h.b h.c h.c h.iptr h.wptr) fun _ => ?_
  exact pick (P := fun x : Mach => Good t k x.k) (fun _ => .mk5 h rfl (fun _ e => e) h.c h.c h.c h.iptr h.wptr) fun _ => .mk5 h rfl (fun _ e => e) h.a h.b h.c h.iptr h.wptr
set_option maxHeartbeats 1000000 in
theorem oth_good {o e : Int} {k : Core} {m : Ram} (h : k.ok) : Good (o == 41) k (othX o ⟨k, e, m⟩).k := by
  unfold othX
  dsimp only
  refine pick (P := fun x : Mach => Good (o == 41) k x.k) (fun e => .mk5 h rfl (fun _ e => e) h.b h.a h.c h.iptr h.wptr) fun _ => ?_
  refine pick (P := fun x : Mach => Good (o == 41) k x.k) (fun e => .mk5 h rfl (fun _ e => e) (i32_xor _ _) h.b h.c h.iptr h.wptr) fun _ => ?_
  refine pick (P := fun x : Mach => Good (o == 41) k x.k) (fun e => .mk5 h rfl (fun _ e => e) (I32_wrap _) h.b h.c h.iptr h.wptr) fun _ => ?_
  refine pick (P := fun x : Mach => Good (o == 41) k x.k) (fun e => .mk5 h rfl (fun _ e => e) (i32_fdiv4 h.a) (i32_and _ _) h.b h.iptr h.wptr) fun _ => ?_
  refine pick (P := fun x : Mach => Good (o == 41) k x.k) (fun e => push_good h i32_min) fun _ => ?_
  refine pick (P := fun x : Mach => Good (o == 41) k x.k) (fun e => .mk5 h rfl (fun _ e => e) (I32_wrap _) h.b h.c h.iptr h.wptr) fun _ => ?_
  refine pick (P := fun x : Mach => Good (o == 41) k x.k) (fun e => check_good (.mk5 h rfl (fun _ e => e) (I32_Wd _) h.b h.c h.iptr h.wptr)) fun _ => ?_
  refine pick (P := fun x : Mach => Good (o == 41) k x.k) (fun e => check_good (.mk5 h rfl (fun _ e => e) (I32_Wd _) h.b h.c h.iptr h.wptr)) fun _ => ?_
  refine pick (P := fun x : Mach => Good (o == 41) k x.k) (fun e => .mk5 h rfl (fun _ e => e) (I32_Wd _) (i32_mod2 _ _ _) h.c h.iptr h.wptr) fun _ => ?_
  refine pick (P := fun x : Mach => Good (o == 41) k x.k) (fun e => .mk5 h rfl (fun _ e => e) (I32_Wd _) (i32_dif2 _ _ _) h.c h.iptr h.wptr) fun _ => ?_
  refine pick (P := fun x : Mach => Good (o == 41) k x.k) (fun e => .mk5 h rfl (fun _ e => e) (I32_Wd _) (I32_Wd _) h.c h.iptr h.wptr) fun _ => ?_
  refine pick (P := fun x : Mach => Good (o == 41) k x.k) (fun e => check_good (.mk5 h rfl (fun _ e => e) (i32_dvQ _ _ _) (i32_dvR _ _ _) h.c h.iptr h.wptr)) fun _ => ?_
  refine pick (P := fun x : Mach => Good (o == 41) k x.k) (fun e => .mk5 h rfl (fun _ e => e) (I32_Wd _) (I32_Wd _) h.c h.iptr h.wptr) fun _ => ?_
  refine pick (P := fun x : Mach => Good (o == 41) k x.k) (fun e => .mk5 h rfl (fun _ e => e) (I32_Wd _) (I32_Wd _) h.c h.iptr h.wptr) fun _ => ?_
  refine pick (P := fun x : Mach => Good (o == 41) k x.k) (fun e => .mk5 h rfl (fun _ e => e) (i32_norm _ _) (i32_normH _ _) (i32_lz (Dv_lt _ _)) h.iptr h.wptr) fun _ => ?_
  refine pick (P := fun x : Mach => Good (o == 41) k x.k) (fun e => .mk5 h rfl (fun _ e => e) h.a (i32_sign _) h.b h.iptr h.wptr) fun _ => ?_
  refine pick (P := fun x : Mach => Good (o == 41) k x.k) (fun e => check_good (.mk5 h rfl (fun _ e => e) h.a h.c h.c h.iptr h.wptr)) fun _ => ?_
  refine pick (P := fun x : Mach => Good (o == 41) k x.k) (fun e => .mk5 h rfl (fun _ e => e) (I32_wrap _) h.b h.c h.iptr h.wptr) fun _ => ?_
  refine pick (P := fun x : Mach => Good (o == 41) k x.k) (fun e => .mk5 h rfl (fun _ e => e) h.c h.c h.c h.iptr h.wptr) fun _ => ?_
  refine pick (P := fun x : Mach => Good (o == 41) k x.k) (fun e => .mk5 h rfl (fun _ e => e) h.a h.b h.c h.iptr h.wptr) fun _ => ?_
  refine pick (P := fun x : Mach => Good (o == 41) k x.k) (fun e => .mk5 h rfl (fun _ e => e) h.iptr h.b h.c h.a h.wptr) fun _ => ?_
  refine pick (P := fun x : Mach => Good (o == 41) k x.k) (fun e => .mk5 h rfl (fun _ e => e) h.wptr h.b h.c h.iptr (i32_andNot _ _)) fun _ => ?_
  refine pick (P := fun x : Mach => Good (o == 41) k x.k) (fun e => .mk5 h rfl (fun _ e => e) h.a h.b h.c (word_I32 _ _) (I32_wrap _)) fun _ => ?_
  refine pick (P := fun x : Mach => Good (o == 41) k x.k) (fun e => lend_good h) fun _ => ?_
  refine pick (P := fun x : Mach => Good (o == 41) k x.k) (fun e => .mk5 h rfl (fun _ _ => rfl) h.a h.b h.c h.iptr h.wptr) fun _ => ?_
  refine pick (P := fun x : Mach => Good (o == 41) k x.k) (fun e => .mk5 h rfl (fun t _ => absurd t (by rw [e]; decide)) (i32_tr _) h.a h.b h.iptr h.wptr) fun _ => ?_
  refine pick (P := fun x : Mach => Good (o == 41) k x.k) (fun e => .mk5 h rfl (fun _ e => e) h.a h.b h.c h.iptr h.wptr) fun _ => ?_
  refine pick (P := fun x : Mach => Good (o == 41) k x.k) (fun e => .mk5 h rfl (fun _ e => e) h.a h.b h.c h.iptr h.wptr) fun _ => ?_
  refine pick (P := fun x : Mach => Good (o == 41) k x.k) (fun e => push_good h (i32_tr _)) fun _ => ?_
  exact .mk5 h rfl (fun _ e => e) h.a h.b h.c h.iptr h.wptr
theorem op_good {fn o e : Int} {k : Core} {m : Ram} (h : k.ok) (ho : I32 o) : Good (fn == 15 && o == 41) k (opX ⟨k, e, m⟩ fn o).k := by
  unfold opX
  dsimp only
  refine pick (P := fun x : Mach => Good _ k x.k) (fun _ => fn_good h ho) fun g => ?_
  have g' : (fn == 15) = true := by simpa using g
  rw [g', Bool.true_and]
  exact pick (P := fun x : Mach => Good (o == 41) k x.k) (fun _ => binK_good h) fun _ => oth_good h
theorem zero_ok : Core.zero.ok := by constructor <;> (first | exact i32_00 | decide)
theorem exP_ok {k : Core} {m : Ram} {fn o : Int} (h : k.ok) (ho : I32 o) : (exP k m fn o).1.ok := by
  unfold exP
  refine pick (P := fun x : Core × Int × Ram => x.1.ok) (fun _ => zero_ok) fun _ => ?_
  refine pick (P := fun x : Core × Int × Ram => x.1.ok) (fun _ => zero_ok) fun _ => ?_
  refine pick (P := fun x : Core × Int × Ram => x.1.ok) (fun _ => zero_ok) fun _ => ?_
  unfold finR
  dsimp only
  cases (opX ⟨k, 0, m⟩ fn o).e != 0 with
  | true => exact zero_ok
  | false => exact (op_good h ho).ok
end Go.Proofs
