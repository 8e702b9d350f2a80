/- CpuDouble (printed by gen28D.py). -/
import Derived.Test.YtgmjidajikhimaaGreatWalkH

namespace Go.Proofs
open Go Go.Sx
set_option maxRecDepth 10000
theorem whole_eq (lo hi : Int) : IntKind.u64.wrap (IntKind.u64.wrap (IntKind.u64.wrap (IntKind.u32.wrap hi) * 2 ^ min 32 IntKind.u64.bits) + IntKind.u64.wrap (IntKind.u32.wrap lo)) = Dv hi lo := by
  unfold Dv Uw
  simp only [IntKind.wrap_u64, IntKind.wrap_u32]
  rw [show (2 : Int) ^ min 32 IntKind.u64.bits = 4294967296 by decide]
  omega
theorem whole_c (lo hi : Int) : Con Tryz.prog f_l28_CpuDouble_1 [.s (.int .i32 lo), .s (.int .i32 hi)] [] (.ret (.t (.s (.int .u64 (Dv hi lo)))) []) := by
  intro K hK
  rw [← whole_eq] at hK
  refine enter fn_l28_CpuDouble_1 rfl nt_l28_CpuDouble_1 rfl rfl (fun φ w0 β0 F => ?_)
  refine c_run tt_ok (ct := []) trivial k_l28_CpuDouble_1 [] 60 (by kernel_rfl) ?_
  exact fin_k tt_ok (rs := rs_l28_CpuDouble_1) rfl rfl hK [] rfl rfl rfl rfl rfl rfl
def spWhole : List TV → Option (Prop × FV)
  | [.s (.int .i32 lo), .s (.int .i32 hi)] => some (True, .t (.s (.int .u64 (Dv hi lo))))
  | _ => none
theorem ceWhole : CEok Tryz.prog f_l28_CpuDouble_1 spWhole := ⟨cal_l28_CpuDouble_1, fun args p v h hp => by
  unfold spWhole at h; split at h
  · cases h; exact (whole_c _ _).pure
  · cases h⟩
noncomputable abbrev ctDb : CT := [(f_l28_CpuDouble_1, .pure spWhole), (f_l28_ready, .pure spReady), (f_l28_fresh, eFresh), (f_l28_fn, .pure spFn), (f_l28_op, .pure spOp), (f_l28_run, eRun), (f_mem_Mem_Word, eWordT), (f_l28_works, .pure spWorks)]
theorem ctDb_ok : CTok Tryz.prog ctDb := ⟨ceWhole, ceReady, con_ok cal_l28_fresh _, ceFn, ceOp, con_ok cal_l28_run _, con_ok cal_mem_Mem_Word _, ceWorks, trivial⟩
theorem mul_whole (alo ahi blo : Int) : Dv (lgMulH blo alo ahi) (lgMul blo alo ahi) = IntKind.u64.wrap (IntKind.u64.wrap (IntKind.u64.wrap (IntKind.u32.wrap alo) * IntKind.u64.wrap (IntKind.u32.wrap blo)) + IntKind.u64.wrap (IntKind.u32.wrap ahi)) := by
  have hu : ∀ x : Int, IntKind.u64.wrap (IntKind.u32.wrap x) = Uw x := fun x => by simp only [IntKind.wrap_u64, IntKind.wrap_u32]; unfold Uw; omega
  rw [mul_law, hu, hu, hu]
  have h1 : 0 ≤ Uw alo ∧ Uw alo ≤ 4294967295 := by unfold Uw; omega
  have h2 : 0 ≤ Uw blo ∧ Uw blo ≤ 4294967295 := by unfold Uw; omega
  have h3 : 0 ≤ Uw ahi ∧ Uw ahi ≤ 4294967295 := by unfold Uw; omega
  have h4 : 0 ≤ Uw alo * Uw blo := Int.mul_nonneg h1.1 h2.1
  have h5 : Uw alo * Uw blo ≤ 4294967295 * 4294967295 := Int.mul_le_mul h1.2 h2.2 h2.1 (by decide)
  simp only [IntKind.wrap_u64]
  omega
set_option maxHeartbeats 4000000 in
theorem CpuDouble_c (alo ahi blo bhi : Int) (h1 : I32 alo) (h2 : I32 ahi) (h3 : I32 blo) (h4 : I32 bhi) : Con Tryz.prog f_l28_CpuDouble [.s (.int .i32 alo), .s (.int .i32 ahi), .s (.int .i32 blo), .s (.int .i32 bhi)] [] (.ret (.t (.s (.bool true))) []) := by
  intro K hK
  have hI : ∀ n, i32B n = true → I32 n := fun n h => i32B_ok h
  refine enter fn_l28_CpuDouble rfl nt_l28_CpuDouble rfl rfl (fun φ w0 β0 F => ?_)
  refine c_run tt_ok ctDb_ok k_l28_CpuDouble [] 60 (by kernel_rfl) ?_
  refine ⟨trivial, trivial, ?_⟩
  refine c_unroll 2 ?_
  refine c_run' tt_ok ctDb_ok k_l28_CpuDouble [] 90 (by kernel_rfl) (by kernel_rfl) ?_
  have eW : ∀ v, I32 v → (Ram.z.set (-2147483520) v).word (-2147483520) = v := fun v hv => by rw [word_set z_len ⟨by decide, by decide, by decide⟩ ⟨by decide, by decide, by decide⟩ hv, if_pos rfl]
  have eE : ∀ v, (Ram.z.set (-2147483520) v).err (-2147483520) = 0 := fun v => by rw [set_err]; exact inA_err z_len ⟨by decide, by decide, by decide⟩
  have w1 := eW (lgSum alo blo 0) (Wd_i32 _)
  have w2 := eW (lgDiff alo blo 0) (Wd_i32 _)
  have x1 := eE (lgSum alo blo 0)
  have x2 := eE (lgDiff alo blo 0)
  have r1 := sum_run alo ahi blo bhi
  have r2 := diff_run alo ahi blo bhi
  generalize Ram.z.set (-2147483520) (lgSum alo blo 0) = M1 at w1 x1 r1
  generalize Ram.z.set (-2147483520) (lgDiff alo blo 0) = M2 at w2 x2 r2
  refine ⟨fun _ => ?_, fun h => absurd h (by decide)⟩
  refine ⟨trivial, trivial, trivial, trivial, trivial, trivial, trivial, trivial, trivial, ?_⟩
  refine ⟨(Ram.z, [(4, 0), (4, alo), (4, blo), (15, 55), (13, 0), (4, ahi), (4, bhi), (15, 55)], _, 0, M1), ⟨rfl, rfl, rfl, rfl, ⟨rfl, rfl, rfl, rfl⟩, ⟨rdK_ok, ⟨hI _ (by decide), h1, h3, hI _ (by decide), hI _ (by decide), h2, h4, hI _ (by decide), trivial⟩, Nat.le_of_ble_eq_true rfl⟩, r1⟩, ?_⟩
  refine ⟨M1, ⟨rfl, rfl, rfl, rfl, hI _ (by decide)⟩, ?_⟩
  refine ⟨fun h => absurd h (by decide), fun _ => ⟨fun _ => trivial, fun h => by exfalso; revert h; simp [x1, w1, sum_law, IntKind.wrap_u64], fun _ => ?_⟩⟩
  refine ⟨fun _ => ?_, fun h => absurd h (by decide)⟩
  refine ⟨trivial, trivial, trivial, trivial, trivial, trivial, trivial, trivial, trivial, ?_⟩
  refine ⟨(Ram.z, [(4, 0), (4, alo), (4, blo), (15, 79), (13, 0), (4, ahi), (4, bhi), (15, 79)], _, 0, M2), ⟨rfl, rfl, rfl, rfl, ⟨rfl, rfl, rfl, rfl⟩, ⟨rdK_ok, ⟨hI _ (by decide), h1, h3, hI _ (by decide), hI _ (by decide), h2, h4, hI _ (by decide), trivial⟩, Nat.le_of_ble_eq_true rfl⟩, r2⟩, ?_⟩
  refine ⟨M2, ⟨rfl, rfl, rfl, rfl, hI _ (by decide)⟩, ?_⟩
  refine ⟨fun _ => ⟨fun _ => trivial, fun h => by exfalso; revert h; simp [x2, w2, diff_law, IntKind.wrap_u64], fun _ => ?_⟩, fun h => absurd h (by decide)⟩
  refine ⟨fun h => absurd h (by decide), fun _ => ?_⟩
  refine ⟨trivial, trivial, trivial, trivial, trivial, ?_⟩
  refine ⟨(Ram.z, [(4, ahi), (4, alo), (4, blo), (15, 49)], _, 0, Ram.z), ⟨rfl, rfl, rfl, rfl, ⟨rfl, rfl, rfl, rfl⟩, ⟨rdK_ok, ⟨h2, h1, h3, hI _ (by decide), trivial⟩, Nat.le_of_ble_eq_true rfl⟩, mul_run alo ahi blo⟩, ?_⟩
  refine ⟨fun _ => trivial, fun _ => trivial, ?_⟩
  refine fin_k tt_ok (rs := rs_l28_CpuDouble) rfl rfl hK [] ?_ rfl rfl rfl rfl rfl
  refine t1b ?_
  rw [← mul_whole]; simp
end Go.Proofs
