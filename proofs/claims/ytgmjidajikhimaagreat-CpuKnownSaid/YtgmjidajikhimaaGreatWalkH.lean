/- CpuKnown: the examples and limits (printed by gen28K.py). -/
import Derived.Test.YtgmjidajikhimaaGreatWalkG

namespace Go.Proofs
open Go Go.Sx
set_option maxRecDepth 10000
def kn0 : Ram := Ram.z.set (-2147483564) 2
def ki0 : Core := ⟨12, -2147483568, 0, -2147483448, -2147483520, 1, true, false, false, false, 0, 0, 0, 0, 0, 0, 0, 0, 0, 0, false, 0, 0, 0, 0, 0, false, 0⟩
def ko0 : Core := ⟨12, -2147483568, 0, -2147483460, -2147483520, 1, true, false, false, false, 0, 0, 0, 0, 0, 0, 0, 0, 0, 0, false, 0, 0, 0, 0, 0, false, 0⟩
def kn1 : Ram := (runR ki0 kn0 [(15, 33)]).2.2
theorem kx0 : runR ki0 kn0 [(15, 33)] = (ko0, 0, kn1) := by kernel_rfl
def ki1 : Core := ⟨12, -2147483568, 0, -2147483448, -2147483520, 1, true, false, false, false, 0, 0, 0, 0, 0, 0, 0, 0, 0, 0, false, 0, 0, 0, 0, 0, false, 0⟩
def ko1 : Core := ⟨12, -2147483568, 0, -2147483448, -2147483520, 1, true, false, false, false, 0, 0, 0, 0, 0, 0, 0, 0, 0, 0, false, 0, 0, 0, 0, 0, false, 0⟩
def kn2 : Ram := (runR ki1 kn1 [(15, 33)]).2.2
theorem kx1 : runR ki1 kn1 [(15, 33)] = (ko1, 0, kn2) := by kernel_rfl
def ki2 : Core := ⟨0, 0, 0, -2147483448, -2147483520, 1, true, false, false, false, 0, 0, 0, 0, 0, 0, 0, 0, 0, 0, false, 0, 0, 0, 0, 0, false, 0⟩
def ko2 : Core := ⟨0, 0, 0, -2147483448, -2147483520, 1, true, false, false, false, 0, 0, 0, 0, 0, 0, 0, 0, 0, 0, false, 0, 0, 0, 0, 0, false, 0⟩
def kn3 : Ram := (runR ki2 kn2 [(3, 0)]).2.2
theorem kx2 : runR ki2 kn2 [(3, 0)] = (ko2, 4, kn3) := by kernel_rfl
def ki3 : Core := ⟨0, 0, 0, -2147483448, -2147483520, 1, true, false, false, false, 0, 0, 0, 0, 0, 0, 0, 0, 0, 0, false, 0, 0, 0, 0, 0, false, 0⟩
def ko3 : Core := ⟨0, 0, 0, -2147483448, -2147483520, 1, true, false, false, false, 0, 0, 0, 0, 0, 0, 0, 0, 0, 0, false, 0, 0, 0, 0, 0, false, 0⟩
def kn4 : Ram := (runR ki3 kn3 [(15, 7)]).2.2
theorem kx3 : runR ki3 kn3 [(15, 7)] = (ko3, 280, kn4) := by kernel_rfl
def ki4 : Core := ⟨0, 0, 0, -2147483448, -2147483520, 1, true, false, false, false, 0, 0, 0, 0, 0, 0, 0, 0, 0, 0, false, 0, 0, 0, 0, 0, false, 0⟩
def ko4 : Core := ⟨0, 0, 0, -2147483448, -2147483520, 1, true, false, false, false, 0, 0, 0, 0, 0, 0, 0, 0, 0, 0, false, 0, 0, 0, 0, 0, false, 0⟩
def kn5 : Ram := (runR ki4 kn4 [(2, 1)]).2.2
theorem kx4 : runR ki4 kn4 [(2, 1)] = (ko4, 280, kn5) := by kernel_rfl
def ki5 : Core := ⟨0, 0, 0, -2147483448, -2147483520, 1, false, false, false, false, 0, 0, 0, 0, 0, 0, 0, 0, 0, 0, false, 0, 0, 0, 0, 0, false, 0⟩
def ko5 : Core := ⟨0, 0, 0, -2147483448, -2147483520, 1, false, false, false, false, 0, 0, 0, 0, 0, 0, 0, 0, 0, 0, false, 0, 0, 0, 0, 0, false, 0⟩
def kn6 : Ram := (runR ki5 kn5 [(15, 5)]).2.2
theorem kx5 : runR ki5 kn5 [(15, 5)] = (ko5, 8, kn6) := by kernel_rfl
def ki6 : Core := ⟨0, 0, 0, -2147483448, -2147483520, 2, true, false, false, false, 0, 0, 0, 0, 0, 0, 0, 0, 0, 0, false, 0, 0, 0, 0, 0, false, 0⟩
def ko6 : Core := ⟨0, 0, 0, -2147483448, -2147483520, 2, true, false, false, false, 0, 0, 0, 0, 0, 0, 0, 0, 0, 0, false, 0, 0, 0, 0, 0, false, 0⟩
def kn7 : Ram := (runR ki6 kn6 [(15, 7)]).2.2
theorem kx6 : runR ki6 kn6 [(15, 7)] = (ko6, 2, kn7) := by kernel_rfl
def ki7 : Core := ⟨0, 0, 0, -2147483448, -2147483640, 1, true, false, false, false, 0, 0, 0, 0, 0, 0, 0, 0, 0, 0, false, 0, 0, 0, 0, 0, false, 0⟩
def ko7 : Core := ⟨0, 0, 0, -2147483448, -2147483640, 1, true, false, false, false, 0, 0, 0, 0, 0, 0, 0, 0, 0, 0, false, 0, 0, 0, 0, 0, false, 0⟩
def kn8 : Ram := (runR ki7 kn7 [(9, 0)]).2.2
theorem kx7 : runR ki7 kn7 [(9, 0)] = (ko7, 4, kn8) := by kernel_rfl
def ki8 : Core := ⟨0, 0, 0, -2147483448, -2147482628, 1, true, false, false, false, 0, 0, 0, 0, 0, 0, 0, 0, 0, 0, false, 0, 0, 0, 0, 0, false, 0⟩
def ko8 : Core := ⟨5, 5, 0, -2147483448, -2147482628, 1, true, false, false, false, 0, 0, 0, 0, 0, 0, 0, 0, 0, 0, false, 0, 0, 0, 0, 0, false, 0⟩
def kn9 : Ram := (runR ki8 kn8 [(4, 5), (13, 0), (7, 0), (1, 0), (15, 1)]).2.2
theorem kx8 : runR ki8 kn8 [(4, 5), (13, 0), (7, 0), (1, 0), (15, 1)] = (ko8, 0, kn9) := by kernel_rfl
def ki9 : Core := ⟨0, 0, 0, -2147483448, -2147482628, 1, true, false, false, false, 0, 0, 0, 0, 0, 0, 0, 0, 0, 0, false, 0, 0, 0, 0, 0, false, 0⟩
def ko9 : Core := ⟨0, 0, 0, -2147483448, -2147482628, 1, true, false, false, false, 0, 0, 0, 0, 0, 0, 0, 0, 0, 0, false, 0, 0, 0, 0, 0, false, 0⟩
def kn10 : Ram := (runR ki9 kn9 [(7, 1)]).2.2
theorem kx9 : runR ki9 kn9 [(7, 1)] = (ko9, 4, kn10) := by kernel_rfl
def ki10 : Core := ⟨0, 0, 0, -2147483448, -2147482628, 1, true, false, false, false, 0, 0, 0, 0, 0, 0, 0, 0, 0, 0, false, 0, 0, 0, 0, 0, false, 0⟩
def ko10 : Core := ⟨-2147482628, 1, 0, -2147483448, -2147483648, 1, true, false, false, false, 0, 0, 0, 0, 0, 0, 0, 0, 0, 0, false, 0, 0, 0, 0, 0, false, 0⟩
def kn11 : Ram := (runR ki10 kn10 [(4, -7), (8, -2147483648), (15, 41), (15, 41), (15, 66), (15, 60)]).2.2
theorem kx10 : runR ki10 kn10 [(4, -7), (8, -2147483648), (15, 41), (15, 41), (15, 66), (15, 60)] = (ko10, 0, kn11) := by kernel_rfl
def ki11 : Core := ⟨0, 0, 0, -2147483448, -2147482628, 1, true, false, false, false, 0, 0, 0, 0, 0, 0, 0, 0, 0, 0, false, 0, 0, 0, 0, 0, false, 0⟩
def ko11 : Core := ⟨-2, 2, 0, -2147483448, -2147482628, 1, true, false, true, false, 0, 0, 0, 0, 0, 0, 0, 0, 0, 0, false, 0, 0, 0, 0, 0, false, 0⟩
def kn12 : Ram := (runR ki11 kn11 [(15, 88), (15, 89), (12, 1), (10, 4), (4, -6), (15, 63)]).2.2
theorem kx11 : runR ki11 kn11 [(15, 88), (15, 89), (12, 1), (10, 4), (4, -6), (15, 63)] = (ko11, 0, kn12) := by kernel_rfl
noncomputable abbrev ctKn : CT := [(f_l28_ready, .pure spReady), (f_l28_fresh, eFresh), (f_l28_fn, .pure spFn), (f_l28_op, .pure spOp), (f_l28_run, eRun), (f_mem_Mem_Word, eWordT), (f_mem_Mem_SetWord, eSetWordT), (f_cpu_Mine, .pure spMine), (f_l28_works, .pure spWorks)]
theorem ctKn_ok : CTok Tryz.prog ctKn := ⟨ceReady, con_ok cal_l28_fresh _, ceFn, ceOp, con_ok cal_l28_run _, con_ok cal_mem_Mem_Word _, con_ok cal_mem_Mem_SetWord _, ceMine, ceWorks, trivial⟩
theorem told_true {b : Bool} {β : Nat → Bd} (h : b = true) : (FV.t (.s (.bool true))).den β = (FV.t (.s (.bool b))).den β := by rw [h]
set_option maxHeartbeats 8000000 in
theorem CpuKnown_c : Con Tryz.prog f_l28_CpuKnown [] [] (.ret (.t (.s (.bool true))) []) := by
  intro K hK
  refine enter fn_l28_CpuKnown rfl nt_l28_CpuKnown rfl rfl (fun φ w0 β0 F => ?_)
  refine c_run tt_ok ctKn_ok k_l28_CpuKnown [] 90 (by kernel_rfl) ?_
  refine ⟨trivial, Ram.z, ⟨rfl, rfl, rfl, rfl, i32B_ok (by decide)⟩, ?_⟩
  show WpC _ _ _ _ _
  refine c_merge [(1, .t (.s (.loc 0 0)), none), (2, .t (.s (.loc 2 0)), none), (3, .t (.s (.loc 3 0)), none), (4, .t (.s (.int .i64 0)), none)] [.blk 63 [.sl 1 0 kn1.l.length kn1.l.length], mOwn kn1.l, .blk 26 ki0.sv, .blk 26 ko0.sv] (fun key => ?ways1) ?cont1
  case ways1 =>
    refine c_ways tt_ok ctKn_ok k_l28_CpuKnown rfl rfl ?_
    repeat' (first | exact trivial | (refine WpE.into ?_ key; first | (exact into [0, 1, 2, 3] ⟨⟨_, rfl, rfl⟩, ⟨_, rfl, rfl⟩, ⟨_, rfl, rfl⟩, ⟨_, rfl, rfl⟩, trivial⟩ ⟨_, rfl, rfl⟩ rfl rfl rfl rfl) | (exact into [0, 1, 2, 4] ⟨⟨_, rfl, rfl⟩, ⟨_, rfl, rfl⟩, ⟨_, rfl, rfl⟩, ⟨_, rfl, rfl⟩, trivial⟩ ⟨_, rfl, rfl⟩ rfl rfl rfl rfl)) | (refine Exists.intro (kn0, [(15, 33)], ko0, 0, kn1) ?_; refine And.intro ⟨rfl, rfl, rfl, rfl, ⟨rfl, rfl, rfl, rfl⟩, ⟨okB_ok (by decide +kernel), ⟨i32B_ok (by decide), trivial⟩, by decide⟩, kx0⟩ ?_) | (refine And.intro ?_ ?_) | (refine fun _ => ?_))
  refine e_run tt_ok ctKn_ok k_l28_CpuKnown [] 60 (by kernel_rfl) ?_
  refine ⟨kn1, ⟨rfl, rfl, rfl, rfl, i32B_ok (by decide)⟩, ?_⟩
  show WpC _ _ _ _ _
  refine c_merge [(1, .t (.s (.loc 0 0)), none), (2, .t (.s (.loc 2 0)), none), (3, .t (.s (.loc 3 0)), none), (4, .t (.s (.int .i64 0)), none), (5, .t (.s (.int .i32 (kn1.word (-2147483568)))), none), (7, .t (.s (.loc 4 0)), none), (8, .t (.s (.int .i64 0)), none)] [.blk 63 [.sl 1 0 kn2.l.length kn2.l.length], mOwn kn2.l, .blk 26 ki1.sv, .blk 26 ko0.sv, .blk 26 ko1.sv] (fun key => ?ways2) ?cont2
  case ways2 =>
    refine c_ways tt_ok ctKn_ok k_l28_CpuKnown rfl rfl ?_
    repeat' (first | exact trivial | (refine WpE.into ?_ key; first | (exact into [0, 1, 2, 3, 4] ⟨⟨_, rfl, rfl⟩, ⟨_, rfl, rfl⟩, ⟨_, rfl, rfl⟩, ⟨_, rfl, rfl⟩, ⟨_, rfl, rfl⟩, ⟨_, rfl, rfl⟩, ⟨_, rfl, rfl⟩, trivial⟩ ⟨_, rfl, rfl⟩ rfl rfl rfl rfl) | (exact into [0, 1, 2, 3, 5] ⟨⟨_, rfl, rfl⟩, ⟨_, rfl, rfl⟩, ⟨_, rfl, rfl⟩, ⟨_, rfl, rfl⟩, ⟨_, rfl, rfl⟩, ⟨_, rfl, rfl⟩, ⟨_, rfl, rfl⟩, trivial⟩ ⟨_, rfl, rfl⟩ rfl rfl rfl rfl)) | (refine Exists.intro (kn1, [(15, 33)], ko1, 0, kn2) ?_; refine And.intro ⟨rfl, rfl, rfl, rfl, ⟨rfl, rfl, rfl, rfl⟩, ⟨okB_ok (by decide +kernel), ⟨i32B_ok (by decide), trivial⟩, by decide⟩, kx1⟩ ?_) | (refine And.intro ?_ ?_) | (refine fun _ => ?_))
  refine e_run tt_ok ctKn_ok k_l28_CpuKnown [100013] 60 (by kernel_rfl) ?_
  refine ⟨kn2, ⟨rfl, rfl, rfl, rfl, i32B_ok (by decide)⟩, ?_⟩
  refine ⟨kn2, ⟨rfl, rfl, rfl, rfl, i32B_ok (by decide)⟩, ?_⟩
  refine ⟨.t (.s (.bool true)), fun β => told_true (by decide +kernel), rfl, ?_⟩
  show WpC _ _ _ _ _
  refine c_merge [(1, .t (.s (.loc 0 0)), none), (2, .t (.s (.loc 2 0)), none), (13, .t (.s (.bool true)), none), (15, .t (.s (.int .i64 4)), none)] [.blk 63 [.sl 1 0 kn3.l.length kn3.l.length], mOwn kn3.l, .blk 26 ki2.sv] (fun key => ?ways3) ?cont3
  case ways3 =>
    refine c_ways tt_ok ctKn_ok k_l28_CpuKnown rfl rfl ?_
    repeat' (first | exact trivial | (refine WpE.into ?_ key; first | (exact into [0, 1, 2] ⟨⟨_, rfl, rfl⟩, ⟨_, rfl, rfl⟩, ⟨_, rfl, rfl⟩, ⟨_, rfl, rfl⟩, trivial⟩ ⟨_, rfl, rfl⟩ rfl rfl rfl rfl)) | (refine Exists.intro (kn2, [(3, 0)], ko2, 4, kn3) ?_; refine And.intro ⟨rfl, rfl, rfl, rfl, ⟨rfl, rfl, rfl, rfl⟩, ⟨okB_ok (by decide +kernel), ⟨i32B_ok (by decide), trivial⟩, by decide⟩, kx2⟩ ?_) | (refine And.intro ?_ ?_) | (refine fun _ => ?_))
  refine e_run tt_ok ctKn_ok k_l28_CpuKnown [] 60 (by kernel_rfl) ?_
  show WpC _ _ _ _ _
  refine c_merge [(1, .t (.s (.loc 0 0)), none), (2, .t (.s (.loc 2 0)), none), (13, .t (.s (.bool true)), none), (15, .t (.s (.int .i64 4)), none), (17, .t (.s (.int .i64 280)), none)] [.blk 63 [.sl 1 0 kn4.l.length kn4.l.length], mOwn kn4.l, .blk 26 ki3.sv] (fun key => ?ways4) ?cont4
  case ways4 =>
    refine c_ways tt_ok ctKn_ok k_l28_CpuKnown rfl rfl ?_
    repeat' (first | exact trivial | (refine WpE.into ?_ key; first | (exact into [0, 1, 2] ⟨⟨_, rfl, rfl⟩, ⟨_, rfl, rfl⟩, ⟨_, rfl, rfl⟩, ⟨_, rfl, rfl⟩, ⟨_, rfl, rfl⟩, trivial⟩ ⟨_, rfl, rfl⟩ rfl rfl rfl rfl)) | (refine Exists.intro (kn3, [(15, 7)], ko3, 280, kn4) ?_; refine And.intro ⟨rfl, rfl, rfl, rfl, ⟨rfl, rfl, rfl, rfl⟩, ⟨okB_ok (by decide +kernel), ⟨i32B_ok (by decide), trivial⟩, by decide⟩, kx3⟩ ?_) | (refine And.intro ?_ ?_) | (refine fun _ => ?_))
  refine e_run tt_ok ctKn_ok k_l28_CpuKnown [] 60 (by kernel_rfl) ?_
  show WpC _ _ _ _ _
  refine c_merge [(1, .t (.s (.loc 0 0)), none), (2, .t (.s (.loc 2 0)), none), (13, .t (.s (.bool true)), none), (15, .t (.s (.int .i64 4)), none), (17, .t (.s (.int .i64 280)), none), (19, .t (.s (.int .i64 280)), none)] [.blk 63 [.sl 1 0 kn5.l.length kn5.l.length], mOwn kn5.l, .blk 26 ki4.sv] (fun key => ?ways5) ?cont5
  case ways5 =>
    refine c_ways tt_ok ctKn_ok k_l28_CpuKnown rfl rfl ?_
    repeat' (first | exact trivial | (refine WpE.into ?_ key; first | (exact into [0, 1, 2] ⟨⟨_, rfl, rfl⟩, ⟨_, rfl, rfl⟩, ⟨_, rfl, rfl⟩, ⟨_, rfl, rfl⟩, ⟨_, rfl, rfl⟩, ⟨_, rfl, rfl⟩, trivial⟩ ⟨_, rfl, rfl⟩ rfl rfl rfl rfl)) | (refine Exists.intro (kn4, [(2, 1)], ko4, 280, kn5) ?_; refine And.intro ⟨rfl, rfl, rfl, rfl, ⟨rfl, rfl, rfl, rfl⟩, ⟨okB_ok (by decide +kernel), ⟨i32B_ok (by decide), trivial⟩, by decide⟩, kx4⟩ ?_) | (refine And.intro ?_ ?_) | (refine fun _ => ?_))
  refine e_run tt_ok ctKn_ok k_l28_CpuKnown [] 60 (by kernel_rfl) ?_
  show WpC _ _ _ _ _
  refine c_merge [(1, .t (.s (.loc 0 0)), none), (2, .t (.s (.loc 2 0)), none), (13, .t (.s (.bool true)), none), (15, .t (.s (.int .i64 4)), none), (17, .t (.s (.int .i64 280)), none), (19, .t (.s (.int .i64 280)), none), (22, .t (.s (.int .i64 8)), none)] [.blk 63 [.sl 1 0 kn6.l.length kn6.l.length], mOwn kn6.l, .blk 26 ki4.sv] (fun key => ?ways6) ?cont6
  case ways6 =>
    refine c_ways tt_ok ctKn_ok k_l28_CpuKnown rfl rfl ?_
    repeat' (first | exact trivial | (refine WpE.into ?_ key; first | (exact into [0, 1, 2] ⟨⟨_, rfl, rfl⟩, ⟨_, rfl, rfl⟩, ⟨_, rfl, rfl⟩, ⟨_, rfl, rfl⟩, ⟨_, rfl, rfl⟩, ⟨_, rfl, rfl⟩, ⟨_, rfl, rfl⟩, trivial⟩ ⟨_, rfl, rfl⟩ rfl rfl rfl rfl)) | (refine Exists.intro (kn5, [(15, 5)], ko5, 8, kn6) ?_; refine And.intro ⟨rfl, rfl, rfl, rfl, ⟨rfl, rfl, rfl, rfl⟩, ⟨okB_ok (by decide +kernel), ⟨i32B_ok (by decide), trivial⟩, by decide⟩, kx5⟩ ?_) | (refine And.intro ?_ ?_) | (refine fun _ => ?_))
  refine e_run tt_ok ctKn_ok k_l28_CpuKnown [] 60 (by kernel_rfl) ?_
  show WpC _ _ _ _ _
  refine c_merge [(1, .t (.s (.loc 0 0)), none), (2, .t (.s (.loc 2 0)), none), (13, .t (.s (.bool true)), none), (15, .t (.s (.int .i64 4)), none), (17, .t (.s (.int .i64 280)), none), (19, .t (.s (.int .i64 280)), none), (22, .t (.s (.int .i64 8)), none), (25, .t (.s (.int .i64 2)), none)] [.blk 63 [.sl 1 0 kn7.l.length kn7.l.length], mOwn kn7.l, .blk 26 ki4.sv] (fun key => ?ways7) ?cont7
  case ways7 =>
    refine c_ways tt_ok ctKn_ok k_l28_CpuKnown rfl rfl ?_
    repeat' (first | exact trivial | (refine WpE.into ?_ key; first | (exact into [0, 1, 2] ⟨⟨_, rfl, rfl⟩, ⟨_, rfl, rfl⟩, ⟨_, rfl, rfl⟩, ⟨_, rfl, rfl⟩, ⟨_, rfl, rfl⟩, ⟨_, rfl, rfl⟩, ⟨_, rfl, rfl⟩, ⟨_, rfl, rfl⟩, trivial⟩ ⟨_, rfl, rfl⟩ rfl rfl rfl rfl)) | (refine Exists.intro (kn6, [(15, 7)], ko6, 2, kn7) ?_; refine And.intro ⟨rfl, rfl, rfl, rfl, ⟨rfl, rfl, rfl, rfl⟩, ⟨okB_ok (by decide +kernel), ⟨i32B_ok (by decide), trivial⟩, by decide⟩, kx6⟩ ?_) | (refine And.intro ?_ ?_) | (refine fun _ => ?_))
  refine e_run tt_ok ctKn_ok k_l28_CpuKnown [100026] 60 (by kernel_rfl) ?_
  refine ⟨.t (.s (.bool true)), fun β => told_true (by decide +kernel), rfl, ?_⟩
  show WpC _ _ _ _ _
  refine c_merge [(1, .t (.s (.loc 0 0)), none), (2, .t (.s (.loc 2 0)), none), (13, .t (.s (.bool true)), none), (26, .t (.s (.bool true)), none), (28, .t (.s (.int .i64 4)), none)] [.blk 63 [.sl 1 0 kn8.l.length kn8.l.length], mOwn kn8.l, .blk 26 ki7.sv] (fun key => ?ways8) ?cont8
  case ways8 =>
    refine c_ways tt_ok ctKn_ok k_l28_CpuKnown rfl rfl ?_
    repeat' (first | exact trivial | (refine WpE.into ?_ key; first | (exact into [0, 1, 2] ⟨⟨_, rfl, rfl⟩, ⟨_, rfl, rfl⟩, ⟨_, rfl, rfl⟩, ⟨_, rfl, rfl⟩, ⟨_, rfl, rfl⟩, trivial⟩ ⟨_, rfl, rfl⟩ rfl rfl rfl rfl)) | (refine Exists.intro (kn7, [(9, 0)], ko7, 4, kn8) ?_; refine And.intro ⟨rfl, rfl, rfl, rfl, ⟨rfl, rfl, rfl, rfl⟩, ⟨okB_ok (by decide +kernel), ⟨i32B_ok (by decide), trivial⟩, by decide⟩, kx7⟩ ?_) | (refine And.intro ?_ ?_) | (refine fun _ => ?_))
  refine e_run tt_ok ctKn_ok k_l28_CpuKnown [] 60 (by kernel_rfl) ?_
  show WpC _ _ _ _ _
  refine c_merge [(1, .t (.s (.loc 0 0)), none), (2, .t (.s (.loc 2 0)), none), (13, .t (.s (.bool true)), none), (26, .t (.s (.bool true)), none), (28, .t (.s (.int .i64 4)), none), (29, .t (.s (.loc 3 0)), none), (30, .t (.s (.int .i64 0)), none)] [.blk 63 [.sl 1 0 kn9.l.length kn9.l.length], mOwn kn9.l, .blk 26 ki8.sv, .blk 26 ko8.sv] (fun key => ?ways9) ?cont9
  case ways9 =>
    refine c_ways tt_ok ctKn_ok k_l28_CpuKnown rfl rfl ?_
    repeat' (first | exact trivial | (refine WpE.into ?_ key; first | (exact into [0, 1, 2, 3] ⟨⟨_, rfl, rfl⟩, ⟨_, rfl, rfl⟩, ⟨_, rfl, rfl⟩, ⟨_, rfl, rfl⟩, ⟨_, rfl, rfl⟩, ⟨_, rfl, rfl⟩, ⟨_, rfl, rfl⟩, trivial⟩ ⟨_, rfl, rfl⟩ rfl rfl rfl rfl) | (exact into [0, 1, 2, 4] ⟨⟨_, rfl, rfl⟩, ⟨_, rfl, rfl⟩, ⟨_, rfl, rfl⟩, ⟨_, rfl, rfl⟩, ⟨_, rfl, rfl⟩, ⟨_, rfl, rfl⟩, ⟨_, rfl, rfl⟩, trivial⟩ ⟨_, rfl, rfl⟩ rfl rfl rfl rfl)) | (refine Exists.intro (kn8, [(4, 5), (13, 0), (7, 0), (1, 0), (15, 1)], ko8, 0, kn9) ?_; refine And.intro ⟨rfl, rfl, rfl, rfl, ⟨rfl, rfl, rfl, rfl⟩, ⟨okB_ok (by decide +kernel), ⟨i32B_ok (by decide), i32B_ok (by decide), i32B_ok (by decide), i32B_ok (by decide), i32B_ok (by decide), trivial⟩, by decide⟩, kx8⟩ ?_) | (refine And.intro ?_ ?_) | (refine fun _ => ?_))
  refine e_run tt_ok ctKn_ok k_l28_CpuKnown [] 60 (by kernel_rfl) ?_
  show WpC _ _ _ _ _
  refine c_merge [(1, .t (.s (.loc 0 0)), none), (2, .t (.s (.loc 2 0)), none), (13, .t (.s (.bool true)), none), (26, .t (.s (.bool true)), none), (28, .t (.s (.int .i64 4)), none), (29, .t (.s (.loc 3 0)), none), (30, .t (.s (.int .i64 0)), none), (32, .t (.s (.int .i64 4)), none)] [.blk 63 [.sl 1 0 kn10.l.length kn10.l.length], mOwn kn10.l, .blk 26 ki9.sv, .blk 26 ko8.sv] (fun key => ?ways10) ?cont10
  case ways10 =>
    refine c_ways tt_ok ctKn_ok k_l28_CpuKnown rfl rfl ?_
    repeat' (first | exact trivial | (refine WpE.into ?_ key; first | (exact into [0, 1, 2, 3] ⟨⟨_, rfl, rfl⟩, ⟨_, rfl, rfl⟩, ⟨_, rfl, rfl⟩, ⟨_, rfl, rfl⟩, ⟨_, rfl, rfl⟩, ⟨_, rfl, rfl⟩, ⟨_, rfl, rfl⟩, ⟨_, rfl, rfl⟩, trivial⟩ ⟨_, rfl, rfl⟩ rfl rfl rfl rfl)) | (refine Exists.intro (kn9, [(7, 1)], ko9, 4, kn10) ?_; refine And.intro ⟨rfl, rfl, rfl, rfl, ⟨rfl, rfl, rfl, rfl⟩, ⟨okB_ok (by decide +kernel), ⟨i32B_ok (by decide), trivial⟩, by decide⟩, kx9⟩ ?_) | (refine And.intro ?_ ?_) | (refine fun _ => ?_))
  refine e_run tt_ok ctKn_ok k_l28_CpuKnown [100033] 60 (by kernel_rfl) ?_
  refine ⟨.t (.s (.bool true)), fun β => told_true (by decide +kernel), rfl, ?_⟩
  show WpC _ _ _ _ _
  refine c_merge [(1, .t (.s (.loc 0 0)), none), (2, .t (.s (.loc 2 0)), none), (13, .t (.s (.bool true)), none), (26, .t (.s (.bool true)), none), (33, .t (.s (.bool true)), none), (34, .t (.s (.loc 3 0)), none), (35, .t (.s (.int .i64 0)), none)] [.blk 63 [.sl 1 0 kn11.l.length kn11.l.length], mOwn kn11.l, .blk 26 ki10.sv, .blk 26 ko10.sv] (fun key => ?ways11) ?cont11
  case ways11 =>
    refine c_ways tt_ok ctKn_ok k_l28_CpuKnown rfl rfl ?_
    repeat' (first | exact trivial | (refine WpE.into ?_ key; first | (exact into [0, 1, 2, 4] ⟨⟨_, rfl, rfl⟩, ⟨_, rfl, rfl⟩, ⟨_, rfl, rfl⟩, ⟨_, rfl, rfl⟩, ⟨_, rfl, rfl⟩, ⟨_, rfl, rfl⟩, ⟨_, rfl, rfl⟩, trivial⟩ ⟨_, rfl, rfl⟩ rfl rfl rfl rfl) | (exact into [0, 1, 2, 5] ⟨⟨_, rfl, rfl⟩, ⟨_, rfl, rfl⟩, ⟨_, rfl, rfl⟩, ⟨_, rfl, rfl⟩, ⟨_, rfl, rfl⟩, ⟨_, rfl, rfl⟩, ⟨_, rfl, rfl⟩, trivial⟩ ⟨_, rfl, rfl⟩ rfl rfl rfl rfl)) | (refine Exists.intro (kn10, [(4, -7), (8, -2147483648), (15, 41), (15, 41), (15, 66), (15, 60)], ko10, 0, kn11) ?_; refine And.intro ⟨rfl, rfl, rfl, rfl, ⟨rfl, rfl, rfl, rfl⟩, ⟨okB_ok (by decide +kernel), ⟨i32B_ok (by decide), i32B_ok (by decide), i32B_ok (by decide), i32B_ok (by decide), i32B_ok (by decide), i32B_ok (by decide), trivial⟩, by decide⟩, kx10⟩ ?_) | (refine And.intro ?_ ?_) | (refine fun _ => ?_))
  refine e_run tt_ok ctKn_ok k_l28_CpuKnown [] 60 (by kernel_rfl) ?_
  show WpC _ _ _ _ _
  refine c_merge [(1, .t (.s (.loc 0 0)), none), (2, .t (.s (.loc 2 0)), none), (13, .t (.s (.bool true)), none), (26, .t (.s (.bool true)), none), (33, .t (.s (.bool true)), none), (34, .t (.s (.loc 3 0)), none), (35, .t (.s (.int .i64 0)), none), (36, .t (.s (.loc 4 0)), none), (37, .t (.s (.int .i64 0)), none)] [.blk 63 [.sl 1 0 kn12.l.length kn12.l.length], mOwn kn12.l, .blk 26 ki11.sv, .blk 26 ko10.sv, .blk 26 ko11.sv] (fun key => ?ways12) ?cont12
  case ways12 =>
    refine c_ways tt_ok ctKn_ok k_l28_CpuKnown rfl rfl ?_
    repeat' (first | exact trivial | (refine WpE.into ?_ key; first | (exact into [0, 1, 2, 3, 4] ⟨⟨_, rfl, rfl⟩, ⟨_, rfl, rfl⟩, ⟨_, rfl, rfl⟩, ⟨_, rfl, rfl⟩, ⟨_, rfl, rfl⟩, ⟨_, rfl, rfl⟩, ⟨_, rfl, rfl⟩, ⟨_, rfl, rfl⟩, ⟨_, rfl, rfl⟩, trivial⟩ ⟨_, rfl, rfl⟩ rfl rfl rfl rfl) | (exact into [0, 1, 2, 3, 5] ⟨⟨_, rfl, rfl⟩, ⟨_, rfl, rfl⟩, ⟨_, rfl, rfl⟩, ⟨_, rfl, rfl⟩, ⟨_, rfl, rfl⟩, ⟨_, rfl, rfl⟩, ⟨_, rfl, rfl⟩, ⟨_, rfl, rfl⟩, ⟨_, rfl, rfl⟩, trivial⟩ ⟨_, rfl, rfl⟩ rfl rfl rfl rfl)) | (refine Exists.intro (kn11, [(15, 88), (15, 89), (12, 1), (10, 4), (4, -6), (15, 63)], ko11, 0, kn12) ?_; refine And.intro ⟨rfl, rfl, rfl, rfl, ⟨rfl, rfl, rfl, rfl⟩, ⟨okB_ok (by decide +kernel), ⟨i32B_ok (by decide), i32B_ok (by decide), i32B_ok (by decide), i32B_ok (by decide), i32B_ok (by decide), i32B_ok (by decide), trivial⟩, by decide⟩, kx11⟩ ?_) | (refine And.intro ?_ ?_) | (refine fun _ => ?_))
  refine e_run tt_ok ctKn_ok k_l28_CpuKnown [100038] 60 (by kernel_rfl) ?_
  refine ⟨.t (.s (.bool true)), fun β => told_true (by decide +kernel), rfl, ?_⟩
  refine ⟨fun _ => trivial, fun _ => trivial, fun _ => trivial, fun _ => trivial, fun _ => trivial, ?_⟩
  refine fin_k tt_ok (rs := rs_l28_CpuKnown) rfl rfl hK [] ?_ rfl rfl rfl rfl rfl
  refine t1b ?_
  decide +kernel
end Go.Proofs
