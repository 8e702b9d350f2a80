/- CpuCalls (printed by gen28C.py). -/
import Derived.Test.YtgmjidajikhimaaGreatWalkH

namespace Go.Proofs
open Go Go.Sx
set_option maxRecDepth 10000
theorem told_int {k : IntKind} {a b : Int} {β : Nat → Bd} (h : b = a) : (FV.t (.s (.int k a))).den β = (FV.t (.s (.int k b))).den β := by rw [h]
theorem and1_i64 (v : Int) : bits .and .i64 v 1 = v % 2 := by
  have e : bits .and .i64 v 1 = IntKind.i64.wrap ((BitVec.ofInt 64 v &&& BitVec.ofInt 64 1).toNat : Int) := rfl
  have e15 : (BitVec.ofInt 64 1).toNat = 2 ^ 1 - 1 := by decide
  rw [e, BitVec.toNat_and, BitVec.toNat_ofInt, e15, Nat.and_two_pow_sub_one_eq_mod, IntKind.wrap_i64]
  omega
theorem and1_live {v : Int} : (bits .and .i64 v 1).fdiv 2 = 0 := by
  rw [and1_i64]
  have : v % 2 = 0 ∨ v % 2 = 1 := by omega
  rcases this with h | h <;> rw [h] <;> decide
theorem and1_rng {v : Int} : -9223372036854775808 ≤ bits .and .i64 v 1 ∧ bits .and .i64 v 1 ≤ 9223372036854775807 := by rw [and1_i64]; omega
noncomputable abbrev ctCa : CT := [(f_l28_fresh, eFresh), (f_l28_fn, .pure spFn), (f_l28_op, .pure spOp), (f_l28_run, eRun), (f_l28_works, .pure spWorks)]
theorem ctCa_ok : CTok Tryz.prog ctCa := ⟨con_ok cal_l28_fresh _, ceFn, ceOp, con_ok cal_l28_run _, ceWorks, trivial⟩
theorem calls_w {w : Int} (hw : 0 ≤ w ∧ w < 256) : roomy (IntKind.i32.wrap (-2147483584 + IntKind.i32.wrap (4 * IntKind.i32.wrap (w.tmod 200)))) := by
  have h := Int.tmod_eq_emod_of_nonneg (b := 200) hw.1
  have h2 : 0 ≤ w % 200 ∧ w % 200 < 200 := by omega
  unfold roomy
  rw [h]; simp only [IntKind.wrap_i32]; omega
set_option maxHeartbeats 4000000 in
theorem CpuCalls_c (k : Core) (w n x y : Int) (hok : k.ok) (hw : 0 ≤ w ∧ w < 256) (hn : I32 n) (hx : I32 x) (hy : I32 y) : Con Tryz.prog f_l28_CpuCalls [.agg k.sv, .s (.int .u8 w), .s (.int .i32 n), .s (.int .i32 x), .s (.int .i32 y)] [] (.ret (.t (.s (.bool true))) []) := by
  intro K hK
  have hq1 := calls_w hw
  obtain ⟨V, hV⟩ : ∃ V, V = IntKind.i32.wrap (-2147483584 + IntKind.i32.wrap (4 * IntKind.i32.wrap (w.tmod 200))) := ⟨_, rfl⟩
  rw [← hV] at hq1
  have hVI : I32 V := by unfold roomy at hq1; unfold I32; omega
  obtain ⟨P, hP⟩ : ∃ P, P = bits .and .i64 k.pri 1 := ⟨_, rfl⟩
  have hPl : P.fdiv 2 = 0 := by rw [hP]; exact and1_live
  have hPr : -9223372036854775808 ≤ P ∧ P ≤ 9223372036854775807 := by rw [hP]; exact and1_rng
  obtain ⟨K1, hK1⟩ : ∃ K1 : Core, K1 = { k with wptr := V, pri := P, busy := true } := ⟨_, rfl⟩
  have ok1 : K1.ok := by rw [hK1]; exact ⟨hok.1, hok.2, hok.3, hok.4, hVI, hPr, hok.7, hok.8, hok.9, hok.10, hok.11, hok.12, hok.13, hok.14, hok.15, hok.16, hok.17, hok.18, hok.19, hok.20, hok.21, hok.22⟩
  have hL : Live K1 := by rw [hK1]; exact ⟨hPl, rfl⟩
  have hR : roomy K1.wptr := by rw [hK1]; exact hq1
  have fM := callM_frame ok1 z_len hR
  have h1 : runR K1 Ram.z [(9, n)] = (callK K1 n, 0, callM K1 Ram.z) := call_run z_len hL hR []
  generalize callM K1 Ram.z = M at fM h1
  have h2 := loads_run (n := n) hL hR fM
  have h3 := back_run (n := n) (x := x) (y := y) hL hR fM
  have ok2 : (callK K1 n).ok := ⟨ok1.4, ok1.2, ok1.3, I32_wrap _, I32_wrap _, ok1.6, ok1.7, ok1.8, ok1.9, ok1.10, ok1.11, ok1.12, ok1.13, ok1.14, ok1.15, ok1.16, ok1.17, ok1.18, ok1.19, ok1.20, ok1.21, ok1.22⟩
  have ok3 : Core.ok { K1 with wptr := IntKind.i32.wrap (K1.wptr - 16), iptr := IntKind.i32.wrap (K1.iptr + n) } := ⟨ok1.1, ok1.2, ok1.3, I32_wrap _, I32_wrap _, ok1.6, ok1.7, ok1.8, ok1.9, ok1.10, ok1.11, ok1.12, ok1.13, ok1.14, ok1.15, ok1.16, ok1.17, ok1.18, ok1.19, ok1.20, ok1.21, ok1.22⟩
  subst hK1
  have hI : ∀ n, i32B n = true → I32 n := fun n h => i32B_ok h
  have hb : ∀ c : Bool, (c = true → False) → c = false := fun c h => by cases c <;> simp_all
  refine enter fn_l28_CpuCalls rfl nt_l28_CpuCalls rfl rfl (fun φ w0 β0 F => ?_)
  refine c_run tt_ok ctCa_ok k_l28_CpuCalls [100020, 100027] 60 (by kernel_rfl) ?_
  refine ⟨.t (.s (.int .i64 P)), fun β => told_int hP.symm, rfl, ?_⟩
  refine ⟨.t (.s (.int .i32 V)), fun β => told_int hV.symm, rfl, ?_⟩
  show WpC _ _ _ _ _
  refine c_merge [(2, .t (.s (.int .i32 n)), none), (3, .t (.s (.int .i32 x)), none), (4, .t (.s (.int .i32 y)), none), (5, .t (.s (.loc 0 0)), none), (11, .t (.s (.loc 1 0)), none), (12, .t (.s (.loc 3 0)), none), (13, .t (.s (.int .i64 0)), none)] [.blk 26 (Core.sv (Core.mk k.a k.b k.c k.iptr V P true k.err k.hoe k.halted k.f0 k.f1 k.b0 k.b1 k.t0 k.t1 k.k0 k.k1 k.ticks k.slice k.sis k.sa k.sb k.sc k.siptr k.swptr k.serr k.sslice)), .blk 63 [.sl 2 0 M.l.length M.l.length], mOwn M.l, .blk 26 (Core.sv (callK (Core.mk k.a k.b k.c k.iptr V P true k.err k.hoe k.halted k.f0 k.f1 k.b0 k.b1 k.t0 k.t1 k.k0 k.k1 k.ticks k.slice k.sis k.sa k.sb k.sc k.siptr k.swptr k.serr k.sslice) n))] (fun key => ?ways1) ?cont1
  case ways1 =>
    refine c_ways tt_ok ctCa_ok k_l28_CpuCalls rfl rfl ?_
    repeat' (first | exact trivial | (refine WpE.into ?_ key; first | (exact into [0, 1, 2, 3] ⟨⟨_, rfl, rfl⟩, ⟨_, rfl, rfl⟩, ⟨_, rfl, rfl⟩, ⟨_, rfl, rfl⟩, ⟨_, rfl, rfl⟩, ⟨_, rfl, rfl⟩, ⟨_, rfl, rfl⟩, trivial⟩ ⟨_, rfl, rfl⟩ rfl rfl rfl rfl) | (exact into [0, 1, 2, 4] ⟨⟨_, rfl, rfl⟩, ⟨_, rfl, rfl⟩, ⟨_, rfl, rfl⟩, ⟨_, rfl, rfl⟩, ⟨_, rfl, rfl⟩, ⟨_, rfl, rfl⟩, ⟨_, rfl, rfl⟩, trivial⟩ ⟨_, rfl, rfl⟩ rfl rfl rfl rfl)) | (refine Exists.intro (Ram.z, [(9, n)], (callK (Core.mk k.a k.b k.c k.iptr V P true k.err k.hoe k.halted k.f0 k.f1 k.b0 k.b1 k.t0 k.t1 k.k0 k.k1 k.ticks k.slice k.sis k.sa k.sb k.sc k.siptr k.swptr k.serr k.sslice) n), 0, M) ?_; refine And.intro ⟨rfl, rfl, rfl, rfl, ⟨rfl, rfl, rfl, rfl⟩, ⟨ok1, ⟨hn, trivial⟩, Nat.le_of_ble_eq_true rfl⟩, h1⟩ ?_) | (refine And.intro ?_ ?_) | (refine fun _ => ?_))
  refine e_run tt_ok ctCa_ok k_l28_CpuCalls [] 60 (by kernel_rfl) ?_
  refine ⟨fun h => by exfalso; revert h; simp [callK], fun _ => ?_⟩
  show WpC _ _ _ _ _
  refine c_merge [(3, .t (.s (.int .i32 x)), none), (4, .t (.s (.int .i32 y)), none), (5, .t (.s (.loc 0 0)), none), (11, .t (.s (.loc 1 0)), none), (14, .t (.s (.loc 3 0)), none), (15, .t (.s (.int .i64 0)), none)] [.blk 26 (Core.sv (Core.mk k.a k.b k.c k.iptr V P true k.err k.hoe k.halted k.f0 k.f1 k.b0 k.b1 k.t0 k.t1 k.k0 k.k1 k.ticks k.slice k.sis k.sa k.sb k.sc k.siptr k.swptr k.serr k.sslice)), .blk 63 [.sl 2 0 M.l.length M.l.length], mOwn M.l, .blk 26 (Core.sv { (Core.mk k.a k.b k.c k.iptr V P true k.err k.hoe k.halted k.f0 k.f1 k.b0 k.b1 k.t0 k.t1 k.k0 k.k1 k.ticks k.slice k.sis k.sa k.sb k.sc k.siptr k.swptr k.serr k.sslice) with wptr := IntKind.i32.wrap (V - 16), iptr := IntKind.i32.wrap (k.iptr + n) })] (fun key => ?ways2) ?cont2
  case ways2 =>
    refine c_ways tt_ok ctCa_ok k_l28_CpuCalls rfl rfl ?_
    repeat' (first | exact trivial | (refine WpE.into ?_ key; first | (exact into [0, 1, 2, 4] ⟨⟨_, rfl, rfl⟩, ⟨_, rfl, rfl⟩, ⟨_, rfl, rfl⟩, ⟨_, rfl, rfl⟩, ⟨_, rfl, rfl⟩, ⟨_, rfl, rfl⟩, trivial⟩ ⟨_, rfl, rfl⟩ rfl rfl rfl rfl) | (exact into [0, 1, 2, 5] ⟨⟨_, rfl, rfl⟩, ⟨_, rfl, rfl⟩, ⟨_, rfl, rfl⟩, ⟨_, rfl, rfl⟩, ⟨_, rfl, rfl⟩, ⟨_, rfl, rfl⟩, trivial⟩ ⟨_, rfl, rfl⟩ rfl rfl rfl rfl)) | (refine Exists.intro (M, [(7, 3), (7, 2), (7, 1)], { (Core.mk k.a k.b k.c k.iptr V P true k.err k.hoe k.halted k.f0 k.f1 k.b0 k.b1 k.t0 k.t1 k.k0 k.k1 k.ticks k.slice k.sis k.sa k.sb k.sc k.siptr k.swptr k.serr k.sslice) with wptr := IntKind.i32.wrap (V - 16), iptr := IntKind.i32.wrap (k.iptr + n) }, 0, M) ?_; refine And.intro ⟨rfl, rfl, rfl, rfl, ⟨rfl, rfl, rfl, rfl⟩, ⟨ok2, ⟨(hI _ (by decide)), (hI _ (by decide)), (hI _ (by decide)), trivial⟩, Nat.le_of_ble_eq_true rfl⟩, h2⟩ ?_) | (refine And.intro ?_ ?_) | (refine fun _ => ?_))
  refine e_run tt_ok ctCa_ok k_l28_CpuCalls [] 60 (by kernel_rfl) ?_
  refine ⟨fun h => by exfalso; revert h; simp [callK], fun _ => ?_⟩
  show WpC _ _ _ _ _
  refine c_merge [(3, .t (.s (.int .i32 x)), none), (4, .t (.s (.int .i32 y)), none), (5, .t (.s (.loc 0 0)), none), (16, .t (.s (.loc 3 0)), none), (17, .t (.s (.int .i64 0)), none)] [.blk 26 (Core.sv (Core.mk k.a k.b k.c k.iptr V P true k.err k.hoe k.halted k.f0 k.f1 k.b0 k.b1 k.t0 k.t1 k.k0 k.k1 k.ticks k.slice k.sis k.sa k.sb k.sc k.siptr k.swptr k.serr k.sslice)), .blk 63 [.sl 2 0 M.l.length M.l.length], mOwn M.l, .blk 26 (Core.sv { (Core.mk k.a k.b k.c k.iptr V P true k.err k.hoe k.halted k.f0 k.f1 k.b0 k.b1 k.t0 k.t1 k.k0 k.k1 k.ticks k.slice k.sis k.sa k.sb k.sc k.siptr k.swptr k.serr k.sslice) with a := x, b := y, c := k.a })] (fun key => ?ways3) ?cont3
  case ways3 =>
    refine c_ways tt_ok ctCa_ok k_l28_CpuCalls rfl rfl ?_
    repeat' (first | exact trivial | (refine WpE.into ?_ key; first | (exact into [0, 1, 2, 4] ⟨⟨_, rfl, rfl⟩, ⟨_, rfl, rfl⟩, ⟨_, rfl, rfl⟩, ⟨_, rfl, rfl⟩, ⟨_, rfl, rfl⟩, trivial⟩ ⟨_, rfl, rfl⟩ rfl rfl rfl rfl) | (exact into [0, 1, 2, 5] ⟨⟨_, rfl, rfl⟩, ⟨_, rfl, rfl⟩, ⟨_, rfl, rfl⟩, ⟨_, rfl, rfl⟩, ⟨_, rfl, rfl⟩, trivial⟩ ⟨_, rfl, rfl⟩ rfl rfl rfl rfl)) | (refine Exists.intro (M, [(4, x), (4, y), (15, 0), (11, -3), (11, 3), (15, 32)], { (Core.mk k.a k.b k.c k.iptr V P true k.err k.hoe k.halted k.f0 k.f1 k.b0 k.b1 k.t0 k.t1 k.k0 k.k1 k.ticks k.slice k.sis k.sa k.sb k.sc k.siptr k.swptr k.serr k.sslice) with a := x, b := y, c := k.a }, 0, M) ?_; refine And.intro ⟨rfl, rfl, rfl, rfl, ⟨rfl, rfl, rfl, rfl⟩, ⟨ok3, ⟨hx, hy, (hI _ (by decide)), (hI _ (by decide)), (hI _ (by decide)), (hI _ (by decide)), trivial⟩, Nat.le_of_ble_eq_true rfl⟩, h3⟩ ?_) | (refine And.intro ?_ ?_) | (refine fun _ => ?_))
  refine e_run tt_ok ctCa_ok k_l28_CpuCalls [] 60 (by kernel_rfl) ?_
  refine ⟨fun _ => trivial, ?_⟩
  refine fin_k tt_ok (rs := rs_l28_CpuCalls) rfl rfl hK [] ?_ rfl rfl rfl rfl rfl
  refine t1b ?_
  simp
end Go.Proofs
