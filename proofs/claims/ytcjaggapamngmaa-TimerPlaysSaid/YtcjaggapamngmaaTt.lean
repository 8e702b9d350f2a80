/- Types, slots and numbers of this seat's functions (printed by a program). -/
import Derived.Test.YtcjaggapamngmaaSxC
import Derived.Test.YtcjaggapamngmaaProg

namespace Go.Proofs
open Go Go.Sx
def ti1 : TI := { size := 1, zv := .nilFunc, agg := false, kd := .fn }
theorem tok1 : TIok Try.prog 1 ti1 := ⟨by kernel_rfl, by kernel_rfl, by kernel_rfl, by kernel_rfl, fun _ h => by cases h⟩
def ti3 : TI := { size := 1, zv := .int .i64 0, agg := false, kd := .int .i64 }
theorem tok3 : TIok Try.prog 3 ti3 := ⟨by kernel_rfl, by kernel_rfl, by kernel_rfl, by kernel_rfl, fun _ h => by cases h⟩
def ti4 : TI := { size := 1, zv := .bool false, agg := false, kd := .bool }
theorem tok4 : TIok Try.prog 4 ti4 := ⟨by kernel_rfl, by kernel_rfl, by kernel_rfl, by kernel_rfl, fun _ h => by cases h⟩
def ti5 : TI := { size := 1, zv := .int .u8 0, agg := false, kd := .int .u8 }
theorem tok5 : TIok Try.prog 5 ti5 := ⟨by kernel_rfl, by kernel_rfl, by kernel_rfl, by kernel_rfl, fun _ h => by cases h⟩
def ti9 : TI := { size := 1, zv := .string ByteArray.empty, agg := false, kd := .str }
theorem tok9 : TIok Try.prog 9 ti9 := ⟨by kernel_rfl, by kernel_rfl, by kernel_rfl, by kernel_rfl, fun _ h => by cases h⟩
def ti21 : TI := { size := 1, zv := .int .i32 0, agg := false, kd := .int .i32 }
theorem tok21 : TIok Try.prog 21 ti21 := ⟨by kernel_rfl, by kernel_rfl, by kernel_rfl, by kernel_rfl, fun _ h => by cases h⟩
def ti22 : TI := { size := 2, zv := .agg #[.int .i32 0, .int .i32 0], agg := true, kd := .arr 2 1 false }
theorem tok22 : TIok Try.prog 22 ti22 := ⟨by kernel_rfl, by kernel_rfl, by kernel_rfl, by kernel_rfl, fun _ h => by cases h⟩
def ti24 : TI := { size := 8, zv := .agg #[.bool false, .int .i32 0, .int .i32 0, .int .i32 0, .int .i32 0, .int .i32 0, .bool false, .int .i32 0], agg := true, kd := .struct [(0, (1, false)), (1, (1, false)), (2, (1, false)), (3, (1, false)), (4, (1, false)), (5, (1, false)), (6, (1, false)), (7, (1, false))] }
theorem tok24 : TIok Try.prog 24 ti24 := ⟨by kernel_rfl, by kernel_rfl, by kernel_rfl, by kernel_rfl, fun _ h => by cases h⟩
def ti26 : TI := { size := 28, zv := .agg #[.int .i32 0, .int .i32 0, .int .i32 0, .int .i32 0, .int .i32 0, .int .i64 0, .bool false, .bool false, .bool false, .bool false, .int .i32 0, .int .i32 0, .int .i32 0, .int .i32 0, .int .i32 0, .int .i32 0, .int .i32 0, .int .i32 0, .int .i32 0, .int .i32 0, .bool false, .int .i32 0, .int .i32 0, .int .i32 0, .int .i32 0, .int .i32 0, .bool false, .int .i32 0], agg := true, kd := .struct [(0, (1, false)), (1, (1, false)), (2, (1, false)), (3, (1, false)), (4, (1, false)), (5, (1, false)), (6, (1, false)), (7, (1, false)), (8, (1, false)), (9, (1, false)), (10, (2, true)), (12, (2, true)), (14, (2, true)), (16, (2, true)), (18, (1, false)), (19, (1, false)), (20, (8, true))], flat := some [some .i32, some .i32, some .i32, some .i32, some .i32, some .i64, none, none, none, none, some .i32, some .i32, some .i32, some .i32, some .i32, some .i32, some .i32, some .i32, some .i32, some .i32, none, some .i32, some .i32, some .i32, some .i32, some .i32, none, some .i32] }
theorem tok26 : TIok Try.prog 26 ti26 := ⟨by kernel_rfl, by kernel_rfl, by kernel_rfl, by kernel_rfl, fun _ h => by cases h; exact flatEq_of (by kernel_rfl) (by kernel_rfl) (by kernel_rfl)⟩
def ti28 : TI := { size := 2, zv := .agg #[.int .u8 0, .int .i32 0], agg := true, kd := .struct [(0, (1, false)), (1, (1, false))] }
theorem tok28 : TIok Try.prog 28 ti28 := ⟨by kernel_rfl, by kernel_rfl, by kernel_rfl, by kernel_rfl, fun _ h => by cases h⟩
def ti30 : TI := { size := 6, zv := .agg #[.int .u8 0, .int .i32 0, .int .i32 0, .int .i64 0, .int .u8 0, .int .i32 0], agg := true, kd := .struct [(0, (1, false)), (1, (1, false)), (2, (1, false)), (3, (1, false)), (4, (2, true))] }
theorem tok30 : TIok Try.prog 30 ti30 := ⟨by kernel_rfl, by kernel_rfl, by kernel_rfl, by kernel_rfl, fun _ h => by cases h⟩
def ti31 : TI := { size := 1, zv := .slice none 0 0, agg := false, kd := .slice 5 1 1 }
theorem tok31 : TIok Try.prog 31 ti31 := ⟨by kernel_rfl, by kernel_rfl, by kernel_rfl, by kernel_rfl, fun _ h => by cases h⟩
def ti33 : TI := { size := 1, zv := .agg #[.slice none 0 0], agg := true, kd := .struct [(0, (1, false))] }
theorem tok33 : TIok Try.prog 33 ti33 := ⟨by kernel_rfl, by kernel_rfl, by kernel_rfl, by kernel_rfl, fun _ h => by cases h⟩
def ti34 : TI := { size := 1, zv := .pointer none, agg := false, kd := .ptr }
theorem tok34 : TIok Try.prog 34 ti34 := ⟨by kernel_rfl, by kernel_rfl, by kernel_rfl, by kernel_rfl, fun _ h => by cases h⟩
def ti35 : TI := { size := 1, zv := .slice none 0 0, agg := false, kd := .slice 21 1 4 }
theorem tok35 : TIok Try.prog 35 ti35 := ⟨by kernel_rfl, by kernel_rfl, by kernel_rfl, by kernel_rfl, fun _ h => by cases h⟩
def ti36 : TI := { size := 1, zv := .int .i64 0, agg := false, kd := .int .i64 }
theorem tok36 : TIok Try.prog 36 ti36 := ⟨by kernel_rfl, by kernel_rfl, by kernel_rfl, by kernel_rfl, fun _ h => by cases h⟩
def ti54 : TI := { size := 1, zv := .slice none 0 0, agg := false, kd := .slice 30 6 32 }
theorem tok54 : TIok Try.prog 54 ti54 := ⟨by kernel_rfl, by kernel_rfl, by kernel_rfl, by kernel_rfl, fun _ h => by cases h⟩
def ti64 : TI := { size := 1, zv := .slice none 0 0, agg := false, kd := .slice 68 2 2 }
theorem tok64 : TIok Try.prog 64 ti64 := ⟨by kernel_rfl, by kernel_rfl, by kernel_rfl, by kernel_rfl, fun _ h => by cases h⟩
def ti68 : TI := { size := 2, zv := .agg #[.bool false, .int .u8 0], agg := true, kd := .struct [(0, (1, false)), (1, (1, false))] }
theorem tok68 : TIok Try.prog 68 ti68 := ⟨by kernel_rfl, by kernel_rfl, by kernel_rfl, by kernel_rfl, fun _ h => by cases h⟩
def ti75 : TI := { size := 1, zv := .pointer none, agg := false, kd := .ptr }
theorem tok75 : TIok Try.prog 75 ti75 := ⟨by kernel_rfl, by kernel_rfl, by kernel_rfl, by kernel_rfl, fun _ h => by cases h⟩
def ti76 : TI := { size := 1, zv := .nilFunc, agg := false, kd := .fn }
theorem tok76 : TIok Try.prog 76 ti76 := ⟨by kernel_rfl, by kernel_rfl, by kernel_rfl, by kernel_rfl, fun _ h => by cases h⟩
def ti77 : TI := { size := 1, zv := .nilFunc, agg := false, kd := .fn }
theorem tok77 : TIok Try.prog 77 ti77 := ⟨by kernel_rfl, by kernel_rfl, by kernel_rfl, by kernel_rfl, fun _ h => by cases h⟩
def ti79 : TI := { size := 1, zv := .nilFunc, agg := false, kd := .fn }
theorem tok79 : TIok Try.prog 79 ti79 := ⟨by kernel_rfl, by kernel_rfl, by kernel_rfl, by kernel_rfl, fun _ h => by cases h⟩
def ti85 : TI := { size := 0, zv := .agg #[], agg := true, kd := .struct [] }
theorem tok85 : TIok Try.prog 85 ti85 := ⟨by kernel_rfl, by kernel_rfl, by kernel_rfl, by kernel_rfl, fun _ h => by cases h⟩
def ti104 : TI := { size := 1, zv := .nilFunc, agg := false, kd := .fn }
theorem tok104 : TIok Try.prog 104 ti104 := ⟨by kernel_rfl, by kernel_rfl, by kernel_rfl, by kernel_rfl, fun _ h => by cases h⟩
def ti105 : TI := { size := 1, zv := .nilFunc, agg := false, kd := .fn }
theorem tok105 : TIok Try.prog 105 ti105 := ⟨by kernel_rfl, by kernel_rfl, by kernel_rfl, by kernel_rfl, fun _ h => by cases h⟩
def ti109 : TI := { size := 1, zv := .int .u32 0, agg := false, kd := .int .u32 }
theorem tok109 : TIok Try.prog 109 ti109 := ⟨by kernel_rfl, by kernel_rfl, by kernel_rfl, by kernel_rfl, fun _ h => by cases h⟩
def ti113 : TI := { size := 1, zv := .slice none 0 0, agg := false, kd := .slice 22 2 8 }
theorem tok113 : TIok Try.prog 113 ti113 := ⟨by kernel_rfl, by kernel_rfl, by kernel_rfl, by kernel_rfl, fun _ h => by cases h⟩
def ti115 : TI := { size := 2, zv := .agg #[.pointer none, .slice none 0 0], agg := true, kd := .struct [(0, (1, false)), (1, (1, false))] }
theorem tok115 : TIok Try.prog 115 ti115 := ⟨by kernel_rfl, by kernel_rfl, by kernel_rfl, by kernel_rfl, fun _ h => by cases h⟩
def ti116 : TI := { size := 1, zv := .nilFunc, agg := false, kd := .fn }
theorem tok116 : TIok Try.prog 116 ti116 := ⟨by kernel_rfl, by kernel_rfl, by kernel_rfl, by kernel_rfl, fun _ h => by cases h⟩
def ti133 : TI := { size := 1, zv := .nilFunc, agg := false, kd := .fn }
theorem tok133 : TIok Try.prog 133 ti133 := ⟨by kernel_rfl, by kernel_rfl, by kernel_rfl, by kernel_rfl, fun _ h => by cases h⟩
abbrev tt : TT := [(1, ti1), (3, ti3), (4, ti4), (5, ti5), (9, ti9), (21, ti21), (22, ti22), (24, ti24), (26, ti26), (28, ti28), (30, ti30), (31, ti31), (33, ti33), (34, ti34), (35, ti35), (36, ti36), (54, ti54), (64, ti64), (68, ti68), (75, ti75), (76, ti76), (77, ti77), (79, ti79), (85, ti85), (104, ti104), (105, ti105), (109, ti109), (113, ti113), (115, ti115), (116, ti116), (133, ti133)]
theorem tt_ok : TTok Try.prog tt := ⟨tok1, tok3, tok4, tok5, tok9, tok21, tok22, tok24, tok26, tok28, tok30, tok31, tok33, tok34, tok35, tok36, tok54, tok64, tok68, tok75, tok76, tok77, tok79, tok85, tok104, tok105, tok109, tok113, tok115, tok116, tok133, (show Try.prog.follows .mixedOrders = true by kernel_rfl)⟩
@[match_pattern] abbrev f_l32_TimerNone : Nat := 3
theorem fn_l32_TimerNone : Try.prog.funcs[f_l32_TimerNone]? = some Try.f3 := Try.func3
abbrev n_l32_TimerNone : Nat := 111
theorem nt_l32_TimerNone : Try.f3.ntmps = n_l32_TimerNone := Try.ntmps3
abbrev k_l32_TimerNone : List Nat := [0, 1, 2, 3, 4, 5, 6, 7, 8, 9, 10, 11, 12, 13, 14, 15, 16, 17, 18, 20, 109]
abbrev rs_l32_TimerNone : List ResultVar := [.tmp 4]
theorem cal_l32_TimerNone : Sx.Callee Try.prog f_l32_TimerNone := ⟨_, Try.func3, by kernel_rfl, by kernel_rfl⟩
noncomputable abbrev in_l32_TimerNone (ct : CT) : Ent := .st (inlS tt ct n_l32_TimerNone k_l32_TimerNone rs_l32_TimerNone 60 (Try.f3.body.getD .skip))
theorem in_l32_TimerNone_ok {ct : CT} (h : CTok Try.prog ct) : EntOk Try.prog f_l32_TimerNone (in_l32_TimerNone ct) := inl_ok tt_ok h 60 fn_l32_TimerNone rfl nt_l32_TimerNone rfl cal_l32_TimerNone (by kernel_rfl)
@[match_pattern] abbrev f_l32_TimerSorted : Nat := 4
theorem fn_l32_TimerSorted : Try.prog.funcs[f_l32_TimerSorted]? = some Try.f4 := Try.func4
abbrev n_l32_TimerSorted : Nat := 164
theorem nt_l32_TimerSorted : Try.f4.ntmps = n_l32_TimerSorted := Try.ntmps4
abbrev k_l32_TimerSorted : List Nat := [0, 1, 2, 3, 8, 9, 11, 12, 13, 14, 15, 16, 17, 18, 19, 20, 21, 22, 23, 24, 26, 37, 47, 68, 96, 99]
abbrev rs_l32_TimerSorted : List ResultVar := [.tmp 8]
theorem cal_l32_TimerSorted : Sx.Callee Try.prog f_l32_TimerSorted := ⟨_, Try.func4, by kernel_rfl, by kernel_rfl⟩
noncomputable abbrev in_l32_TimerSorted (ct : CT) : Ent := .st (inlS tt ct n_l32_TimerSorted k_l32_TimerSorted rs_l32_TimerSorted 60 (Try.f4.body.getD .skip))
theorem in_l32_TimerSorted_ok {ct : CT} (h : CTok Try.prog ct) : EntOk Try.prog f_l32_TimerSorted (in_l32_TimerSorted ct) := inl_ok tt_ok h 60 fn_l32_TimerSorted rfl nt_l32_TimerSorted rfl cal_l32_TimerSorted (by kernel_rfl)
@[match_pattern] abbrev f_l32_TimerPlays : Nat := 5
theorem fn_l32_TimerPlays : Try.prog.funcs[f_l32_TimerPlays]? = some Try.f5 := Try.func5
abbrev n_l32_TimerPlays : Nat := 64
theorem nt_l32_TimerPlays : Try.f5.ntmps = n_l32_TimerPlays := Try.ntmps5
abbrev k_l32_TimerPlays : List Nat := [0, 1, 2, 3, 6, 7, 8, 9, 10, 18, 26, 31, 62]
abbrev rs_l32_TimerPlays : List ResultVar := [.tmp 6]
theorem cal_l32_TimerPlays : Sx.Callee Try.prog f_l32_TimerPlays := ⟨_, Try.func5, by kernel_rfl, by kernel_rfl⟩
noncomputable abbrev in_l32_TimerPlays (ct : CT) : Ent := .st (inlS tt ct n_l32_TimerPlays k_l32_TimerPlays rs_l32_TimerPlays 60 (Try.f5.body.getD .skip))
theorem in_l32_TimerPlays_ok {ct : CT} (h : CTok Try.prog ct) : EntOk Try.prog f_l32_TimerPlays (in_l32_TimerPlays ct) := inl_ok tt_ok h 60 fn_l32_TimerPlays rfl nt_l32_TimerPlays rfl cal_l32_TimerPlays (by kernel_rfl)
@[match_pattern] abbrev f_l32_TimerWakes : Nat := 6
theorem fn_l32_TimerWakes : Try.prog.funcs[f_l32_TimerWakes]? = some Try.f6 := Try.func6
abbrev n_l32_TimerWakes : Nat := 171
theorem nt_l32_TimerWakes : Try.f6.ntmps = n_l32_TimerWakes := Try.ntmps6
abbrev k_l32_TimerWakes : List Nat := [0, 1, 4, 5, 7, 8, 9, 10, 11, 12, 13, 14, 15, 16, 17, 18, 19, 20, 21, 22, 23, 26, 39, 81, 85, 99, 119, 133, 169]
abbrev rs_l32_TimerWakes : List ResultVar := [.tmp 4]
theorem cal_l32_TimerWakes : Sx.Callee Try.prog f_l32_TimerWakes := ⟨_, Try.func6, by kernel_rfl, by kernel_rfl⟩
noncomputable abbrev in_l32_TimerWakes (ct : CT) : Ent := .st (inlS tt ct n_l32_TimerWakes k_l32_TimerWakes rs_l32_TimerWakes 60 (Try.f6.body.getD .skip))
theorem in_l32_TimerWakes_ok {ct : CT} (h : CTok Try.prog ct) : EntOk Try.prog f_l32_TimerWakes (in_l32_TimerWakes ct) := inl_ok tt_ok h 60 fn_l32_TimerWakes rfl nt_l32_TimerWakes rfl cal_l32_TimerWakes (by kernel_rfl)
@[match_pattern] abbrev f_l32_TimerChooses : Nat := 7
theorem fn_l32_TimerChooses : Try.prog.funcs[f_l32_TimerChooses]? = some Try.f7 := Try.func7
abbrev n_l32_TimerChooses : Nat := 174
theorem nt_l32_TimerChooses : Try.f7.ntmps = n_l32_TimerChooses := Try.ntmps7
abbrev k_l32_TimerChooses : List Nat := [0, 1, 2, 6, 7, 9, 10, 11, 12, 13, 14, 15, 16, 17, 18, 19, 20, 21, 24, 47, 51, 72, 84, 93, 110, 123, 129, 137, 146, 150, 164]
abbrev rs_l32_TimerChooses : List ResultVar := [.tmp 6]
theorem cal_l32_TimerChooses : Sx.Callee Try.prog f_l32_TimerChooses := ⟨_, Try.func7, by kernel_rfl, by kernel_rfl⟩
noncomputable abbrev in_l32_TimerChooses (ct : CT) : Ent := .st (inlS tt ct n_l32_TimerChooses k_l32_TimerChooses rs_l32_TimerChooses 60 (Try.f7.body.getD .skip))
theorem in_l32_TimerChooses_ok {ct : CT} (h : CTok Try.prog ct) : EntOk Try.prog f_l32_TimerChooses (in_l32_TimerChooses ct) := inl_ok tt_ok h 60 fn_l32_TimerChooses rfl nt_l32_TimerChooses rfl cal_l32_TimerChooses (by kernel_rfl)
@[match_pattern] abbrev f_timer_Queue : Nat := 8
theorem fn_timer_Queue : Try.prog.funcs[f_timer_Queue]? = some Try.f8 := Try.func8
abbrev n_timer_Queue : Nat := 28
theorem nt_timer_Queue : Try.f8.ntmps = n_timer_Queue := Try.ntmps8
abbrev k_timer_Queue : List Nat := [0, 1, 2, 3, 5, 6, 7, 8, 9, 11, 16, 25]
abbrev rs_timer_Queue : List ResultVar := [.tmp 6, .tmp 7]
theorem cal_timer_Queue : Sx.Callee Try.prog f_timer_Queue := ⟨_, Try.func8, by kernel_rfl, by kernel_rfl⟩
noncomputable abbrev in_timer_Queue (ct : CT) : Ent := .st (inlS tt ct n_timer_Queue k_timer_Queue rs_timer_Queue 60 (Try.f8.body.getD .skip))
theorem in_timer_Queue_ok {ct : CT} (h : CTok Try.prog ct) : EntOk Try.prog f_timer_Queue (in_timer_Queue ct) := inl_ok tt_ok h 60 fn_timer_Queue rfl nt_timer_Queue rfl cal_timer_Queue (by kernel_rfl)
@[match_pattern] abbrev f_timer_Insert : Nat := 9
theorem fn_timer_Insert : Try.prog.funcs[f_timer_Insert]? = some Try.f9 := Try.func9
abbrev n_timer_Insert : Nat := 25
theorem nt_timer_Insert : Try.f9.ntmps = n_timer_Insert := Try.ntmps9
abbrev k_timer_Insert : List Nat := [0, 1, 2, 3, 4, 5, 7, 8, 9, 10, 11, 12, 17]
abbrev rs_timer_Insert : List ResultVar := [.cell 10 26, .tmp 11]
theorem cal_timer_Insert : Sx.Callee Try.prog f_timer_Insert := ⟨_, Try.func9, by kernel_rfl, by kernel_rfl⟩
noncomputable abbrev in_timer_Insert (ct : CT) : Ent := .st (inlS tt ct n_timer_Insert k_timer_Insert rs_timer_Insert 60 (Try.f9.body.getD .skip))
theorem in_timer_Insert_ok {ct : CT} (h : CTok Try.prog ct) : EntOk Try.prog f_timer_Insert (in_timer_Insert ct) := inl_ok tt_ok h 60 fn_timer_Insert rfl nt_timer_Insert rfl cal_timer_Insert (by kernel_rfl)
@[match_pattern] abbrev f_timer_Remove : Nat := 10
theorem fn_timer_Remove : Try.prog.funcs[f_timer_Remove]? = some Try.f10 := Try.func10
abbrev n_timer_Remove : Nat := 35
theorem nt_timer_Remove : Try.f10.ntmps = n_timer_Remove := Try.ntmps10
abbrev k_timer_Remove : List Nat := [0, 1, 2, 3, 4, 6, 7, 8, 9, 10, 11, 12, 17, 31]
abbrev rs_timer_Remove : List ResultVar := [.cell 8 26, .tmp 9]
theorem cal_timer_Remove : Sx.Callee Try.prog f_timer_Remove := ⟨_, Try.func10, by kernel_rfl, by kernel_rfl⟩
noncomputable abbrev in_timer_Remove (ct : CT) : Ent := .st (inlS tt ct n_timer_Remove k_timer_Remove rs_timer_Remove 60 (Try.f10.body.getD .skip))
theorem in_timer_Remove_ok {ct : CT} (h : CTok Try.prog ct) : EntOk Try.prog f_timer_Remove (in_timer_Remove ct) := inl_ok tt_ok h 60 fn_timer_Remove rfl nt_timer_Remove rfl cal_timer_Remove (by kernel_rfl)
@[match_pattern] abbrev f_timer_Tick : Nat := 11
theorem fn_timer_Tick : Try.prog.funcs[f_timer_Tick]? = some Try.f11 := Try.func11
abbrev n_timer_Tick : Nat := 43
theorem nt_timer_Tick : Try.f11.ntmps = n_timer_Tick := Try.ntmps11
abbrev k_timer_Tick : List Nat := [0, 1, 2, 3, 4, 5, 8, 11, 30]
abbrev rs_timer_Tick : List ResultVar := [.cell 4 26, .tmp 5]
theorem cal_timer_Tick : Sx.Callee Try.prog f_timer_Tick := ⟨_, Try.func11, by kernel_rfl, by kernel_rfl⟩
noncomputable abbrev in_timer_Tick (ct : CT) : Ent := .st (inlS tt ct n_timer_Tick k_timer_Tick rs_timer_Tick 60 (Try.f11.body.getD .skip))
theorem in_timer_Tick_ok {ct : CT} (h : CTok Try.prog ct) : EntOk Try.prog f_timer_Tick (in_timer_Tick ct) := inl_ok tt_ok h 60 fn_timer_Tick rfl nt_timer_Tick rfl cal_timer_Tick (by kernel_rfl)
@[match_pattern] abbrev f_timer_Exec : Nat := 12
theorem fn_timer_Exec : Try.prog.funcs[f_timer_Exec]? = some Try.f12 := Try.func12
abbrev n_timer_Exec : Nat := 33
theorem nt_timer_Exec : Try.f12.ntmps = n_timer_Exec := Try.ntmps12
abbrev k_timer_Exec : List Nat := [0, 1, 2, 3, 5, 6, 7, 8, 13, 18, 23]
abbrev rs_timer_Exec : List ResultVar := [.cell 6 26, .tmp 7]
theorem cal_timer_Exec : Sx.Callee Try.prog f_timer_Exec := ⟨_, Try.func12, by kernel_rfl, by kernel_rfl⟩
noncomputable abbrev in_timer_Exec (ct : CT) : Ent := .st (inlS tt ct n_timer_Exec k_timer_Exec rs_timer_Exec 60 (Try.f12.body.getD .skip))
theorem in_timer_Exec_ok {ct : CT} (h : CTok Try.prog ct) : EntOk Try.prog f_timer_Exec (in_timer_Exec ct) := inl_ok tt_ok h 60 fn_timer_Exec rfl nt_timer_Exec rfl cal_timer_Exec (by kernel_rfl)
@[match_pattern] abbrev f_l32_head : Nat := 13
theorem fn_l32_head : Try.prog.funcs[f_l32_head]? = some Try.f13 := Try.func13
abbrev n_l32_head : Nat := 154
theorem nt_l32_head : Try.f13.ntmps = n_l32_head := Try.ntmps13
abbrev k_l32_head : List Nat := [0, 1, 3, 4, 5, 6, 7, 8, 9, 10, 11, 12, 14, 16, 18]
abbrev rs_l32_head : List ResultVar := [.tmp 0]
theorem cal_l32_head : Sx.Callee Try.prog f_l32_head := ⟨_, Try.func13, by kernel_rfl, by kernel_rfl⟩
noncomputable abbrev in_l32_head (ct : CT) : Ent := .st (inlS tt ct n_l32_head k_l32_head rs_l32_head 60 (Try.f13.body.getD .skip))
theorem in_l32_head_ok {ct : CT} (h : CTok Try.prog ct) : EntOk Try.prog f_l32_head (in_l32_head ct) := inl_ok tt_ok h 60 fn_l32_head rfl nt_l32_head rfl cal_l32_head (by kernel_rfl)
@[match_pattern] abbrev f_mem_New : Nat := 14
theorem fn_mem_New : Try.prog.funcs[f_mem_New]? = some Try.f14 := Try.func14
abbrev n_mem_New : Nat := 11
theorem nt_mem_New : Try.f14.ntmps = n_mem_New := Try.ntmps14
abbrev k_mem_New : List Nat := [0, 2, 3, 6]
abbrev rs_mem_New : List ResultVar := [.tmp 2, .tmp 3]
theorem cal_mem_New : Sx.Callee Try.prog f_mem_New := ⟨_, Try.func14, by kernel_rfl, by kernel_rfl⟩
noncomputable abbrev in_mem_New (ct : CT) : Ent := .st (inlS tt ct n_mem_New k_mem_New rs_mem_New 60 (Try.f14.body.getD .skip))
theorem in_mem_New_ok {ct : CT} (h : CTok Try.prog ct) : EntOk Try.prog f_mem_New (in_mem_New ct) := inl_ok tt_ok h 60 fn_mem_New rfl nt_mem_New rfl cal_mem_New (by kernel_rfl)
@[match_pattern] abbrev f_r29_Reset : Nat := 15
theorem fn_r29_Reset : Try.prog.funcs[f_r29_Reset]? = some Try.f15 := Try.func15
abbrev n_r29_Reset : Nat := 17
theorem nt_r29_Reset : Try.f15.ntmps = n_r29_Reset := Try.ntmps15
abbrev k_r29_Reset : List Nat := [0, 1, 2, 4]
abbrev rs_r29_Reset : List ResultVar := [.cell 0 26]
theorem cal_r29_Reset : Sx.Callee Try.prog f_r29_Reset := ⟨_, Try.func15, by kernel_rfl, by kernel_rfl⟩
noncomputable abbrev in_r29_Reset (ct : CT) : Ent := .st (inlS tt ct n_r29_Reset k_r29_Reset rs_r29_Reset 60 (Try.f15.body.getD .skip))
theorem in_r29_Reset_ok {ct : CT} (h : CTok Try.prog ct) : EntOk Try.prog f_r29_Reset (in_r29_Reset ct) := inl_ok tt_ok h 60 fn_r29_Reset rfl nt_r29_Reset rfl cal_r29_Reset (by kernel_rfl)
@[match_pattern] abbrev f_l32_space : Nat := 16
theorem fn_l32_space : Try.prog.funcs[f_l32_space]? = some Try.f16 := Try.func16
abbrev n_l32_space : Nat := 7
theorem nt_l32_space : Try.f16.ntmps = n_l32_space := Try.ntmps16
abbrev k_l32_space : List Nat := [0, 2]
abbrev rs_l32_space : List ResultVar := [.tmp 2]
theorem cal_l32_space : Sx.Callee Try.prog f_l32_space := ⟨_, Try.func16, by kernel_rfl, by kernel_rfl⟩
noncomputable abbrev in_l32_space (ct : CT) : Ent := .st (inlS tt ct n_l32_space k_l32_space rs_l32_space 60 (Try.f16.body.getD .skip))
theorem in_l32_space_ok {ct : CT} (h : CTok Try.prog ct) : EntOk Try.prog f_l32_space (in_l32_space ct) := inl_ok tt_ok h 60 fn_l32_space rfl nt_l32_space rfl cal_l32_space (by kernel_rfl)
@[match_pattern] abbrev f_l32_place : Nat := 17
theorem fn_l32_place : Try.prog.funcs[f_l32_place]? = some Try.f17 := Try.func17
abbrev n_l32_place : Nat := 21
theorem nt_l32_place : Try.f17.ntmps = n_l32_place := Try.ntmps17
abbrev k_l32_place : List Nat := [0, 1, 4, 5, 17]
abbrev rs_l32_place : List ResultVar := [.tmp 4]
theorem cal_l32_place : Sx.Callee Try.prog f_l32_place := ⟨_, Try.func17, by kernel_rfl, by kernel_rfl⟩
noncomputable abbrev in_l32_place (ct : CT) : Ent := .st (inlS tt ct n_l32_place k_l32_place rs_l32_place 60 (Try.f17.body.getD .skip))
theorem in_l32_place_ok {ct : CT} (h : CTok Try.prog ct) : EntOk Try.prog f_l32_place (in_l32_place ct) := inl_ok tt_ok h 60 fn_l32_place rfl nt_l32_place rfl cal_l32_place (by kernel_rfl)
@[match_pattern] abbrev f_l32_put : Nat := 18
theorem fn_l32_put : Try.prog.funcs[f_l32_put]? = some Try.f18 := Try.func18
abbrev n_l32_put : Nat := 22
theorem nt_l32_put : Try.f18.ntmps = n_l32_put := Try.ntmps18
abbrev k_l32_put : List Nat := [0, 1, 2, 6, 7]
abbrev rs_l32_put : List ResultVar := [.tmp 6]
theorem cal_l32_put : Sx.Callee Try.prog f_l32_put := ⟨_, Try.func18, by kernel_rfl, by kernel_rfl⟩
noncomputable abbrev in_l32_put (ct : CT) : Ent := .st (inlS tt ct n_l32_put k_l32_put rs_l32_put 60 (Try.f18.body.getD .skip))
theorem in_l32_put_ok {ct : CT} (h : CTok Try.prog ct) : EntOk Try.prog f_l32_put (in_l32_put ct) := inl_ok tt_ok h 60 fn_l32_put rfl nt_l32_put rfl cal_l32_put (by kernel_rfl)
@[match_pattern] abbrev f_r29_Same : Nat := 19
theorem fn_r29_Same : Try.prog.funcs[f_r29_Same]? = some Try.f19 := Try.func19
abbrev n_r29_Same : Nat := 26
theorem nt_r29_Same : Try.f19.ntmps = n_r29_Same := Try.ntmps19
abbrev k_r29_Same : List Nat := [0, 1, 4, 5, 10, 14, 25]
abbrev rs_r29_Same : List ResultVar := [.tmp 4]
theorem cal_r29_Same : Sx.Callee Try.prog f_r29_Same := ⟨_, Try.func19, by kernel_rfl, by kernel_rfl⟩
noncomputable abbrev in_r29_Same (ct : CT) : Ent := .st (inlS tt ct n_r29_Same k_r29_Same rs_r29_Same 60 (Try.f19.body.getD .skip))
theorem in_r29_Same_ok {ct : CT} (h : CTok Try.prog ct) : EntOk Try.prog f_r29_Same (in_r29_Same ct) := inl_ok tt_ok h 60 fn_r29_Same rfl nt_r29_Same rfl cal_r29_Same (by kernel_rfl)
@[match_pattern] abbrev f_mem_From : Nat := 20
theorem fn_mem_From : Try.prog.funcs[f_mem_From]? = some Try.f20 := Try.func20
abbrev n_mem_From : Nat := 21
theorem nt_mem_From : Try.f20.ntmps = n_mem_From := Try.ntmps20
abbrev k_mem_From : List Nat := [0, 2, 3, 4, 8]
abbrev rs_mem_From : List ResultVar := [.tmp 2, .tmp 3]
theorem cal_mem_From : Sx.Callee Try.prog f_mem_From := ⟨_, Try.func20, by kernel_rfl, by kernel_rfl⟩
noncomputable abbrev in_mem_From (ct : CT) : Ent := .st (inlS tt ct n_mem_From k_mem_From rs_mem_From 60 (Try.f20.body.getD .skip))
theorem in_mem_From_ok {ct : CT} (h : CTok Try.prog ct) : EntOk Try.prog f_mem_From (in_mem_From ct) := inl_ok tt_ok h 60 fn_mem_From rfl nt_mem_From rfl cal_mem_From (by kernel_rfl)
@[match_pattern] abbrev f_l32_both : Nat := 21
theorem fn_l32_both : Try.prog.funcs[f_l32_both]? = some Try.f21 := Try.func21
abbrev n_l32_both : Nat := 224
theorem nt_l32_both : Try.f21.ntmps = n_l32_both := Try.ntmps21
abbrev k_l32_both : List Nat := [0, 1, 2, 3, 4, 7, 8, 9, 10, 11, 12, 13, 14, 15, 16, 17, 18, 19, 20, 26, 36, 58, 61, 88, 111, 126, 145, 162, 172, 198, 215, 219]
abbrev rs_l32_both : List ResultVar := [.cell 8 26, .tmp 9, .tmp 10]
theorem cal_l32_both : Sx.Callee Try.prog f_l32_both := ⟨_, Try.func21, by kernel_rfl, by kernel_rfl⟩
noncomputable abbrev in_l32_both (ct : CT) : Ent := .st (inlS tt ct n_l32_both k_l32_both rs_l32_both 60 (Try.f21.body.getD .skip))
theorem in_l32_both_ok {ct : CT} (h : CTok Try.prog ct) : EntOk Try.prog f_l32_both (in_l32_both ct) := inl_ok tt_ok h 60 fn_l32_both rfl nt_l32_both rfl cal_l32_both (by kernel_rfl)
@[match_pattern] abbrev f_timer_Mine : Nat := 22
theorem fn_timer_Mine : Try.prog.funcs[f_timer_Mine]? = some Try.f22 := Try.func22
abbrev n_timer_Mine : Nat := 16
theorem nt_timer_Mine : Try.f22.ntmps = n_timer_Mine := Try.ntmps22
abbrev k_timer_Mine : List Nat := [0, 1, 2, 5, 7, 8]
abbrev rs_timer_Mine : List ResultVar := [.tmp 2]
theorem cal_timer_Mine : Sx.Callee Try.prog f_timer_Mine := ⟨_, Try.func22, by kernel_rfl, by kernel_rfl⟩
noncomputable abbrev in_timer_Mine (ct : CT) : Ent := .st (inlS tt ct n_timer_Mine k_timer_Mine rs_timer_Mine 60 (Try.f22.body.getD .skip))
theorem in_timer_Mine_ok {ct : CT} (h : CTok Try.prog ct) : EntOk Try.prog f_timer_Mine (in_timer_Mine ct) := inl_ok tt_ok h 60 fn_timer_Mine rfl nt_timer_Mine rfl cal_timer_Mine (by kernel_rfl)
@[match_pattern] abbrev f_r32_Mine : Nat := 23
theorem fn_r32_Mine : Try.prog.funcs[f_r32_Mine]? = some Try.f23 := Try.func23
abbrev n_r32_Mine : Nat := 39
theorem nt_r32_Mine : Try.f23.ntmps = n_r32_Mine := Try.ntmps23
abbrev k_r32_Mine : List Nat := [0, 1, 2, 5]
abbrev rs_r32_Mine : List ResultVar := [.tmp 2]
theorem cal_r32_Mine : Sx.Callee Try.prog f_r32_Mine := ⟨_, Try.func23, by kernel_rfl, by kernel_rfl⟩
noncomputable abbrev in_r32_Mine (ct : CT) : Ent := .st (inlS tt ct n_r32_Mine k_r32_Mine rs_r32_Mine 60 (Try.f23.body.getD .skip))
theorem in_r32_Mine_ok {ct : CT} (h : CTok Try.prog ct) : EntOk Try.prog f_r32_Mine (in_r32_Mine ct) := inl_ok tt_ok h 60 fn_r32_Mine rfl nt_r32_Mine rfl cal_r32_Mine (by kernel_rfl)
@[match_pattern] abbrev f_l32_running : Nat := 24
theorem fn_l32_running : Try.prog.funcs[f_l32_running]? = some Try.f24 := Try.func24
abbrev n_l32_running : Nat := 15
theorem nt_l32_running : Try.f24.ntmps = n_l32_running := Try.ntmps24
abbrev k_l32_running : List Nat := [0, 1, 2, 3, 6]
abbrev rs_l32_running : List ResultVar := [.cell 6 26]
theorem cal_l32_running : Sx.Callee Try.prog f_l32_running := ⟨_, Try.func24, by kernel_rfl, by kernel_rfl⟩
noncomputable abbrev in_l32_running (ct : CT) : Ent := .st (inlS tt ct n_l32_running k_l32_running rs_l32_running 60 (Try.f24.body.getD .skip))
theorem in_l32_running_ok {ct : CT} (h : CTok Try.prog ct) : EntOk Try.prog f_l32_running (in_l32_running ct) := inl_ok tt_ok h 60 fn_l32_running rfl nt_l32_running rfl cal_l32_running (by kernel_rfl)
@[match_pattern] abbrev f_l32_op : Nat := 25
theorem fn_l32_op : Try.prog.funcs[f_l32_op]? = some Try.f25 := Try.func25
abbrev n_l32_op : Nat := 5
theorem nt_l32_op : Try.f25.ntmps = n_l32_op := Try.ntmps25
abbrev k_l32_op : List Nat := [0, 2]
abbrev rs_l32_op : List ResultVar := [.cell 2 28]
theorem cal_l32_op : Sx.Callee Try.prog f_l32_op := ⟨_, Try.func25, by kernel_rfl, by kernel_rfl⟩
noncomputable abbrev in_l32_op (ct : CT) : Ent := .st (inlS tt ct n_l32_op k_l32_op rs_l32_op 60 (Try.f25.body.getD .skip))
theorem in_l32_op_ok {ct : CT} (h : CTok Try.prog ct) : EntOk Try.prog f_l32_op (in_l32_op ct) := inl_ok tt_ok h 60 fn_l32_op rfl nt_l32_op rfl cal_l32_op (by kernel_rfl)
@[match_pattern] abbrev f_r29_Nobody : Nat := 26
theorem fn_r29_Nobody : Try.prog.funcs[f_r29_Nobody]? = some Try.f26 := Try.func26
abbrev n_r29_Nobody : Nat := 13
theorem nt_r29_Nobody : Try.f26.ntmps = n_r29_Nobody := Try.ntmps26
abbrev k_r29_Nobody : List Nat := [0, 1, 2]
abbrev rs_r29_Nobody : List ResultVar := [.cell 2 26]
theorem cal_r29_Nobody : Sx.Callee Try.prog f_r29_Nobody := ⟨_, Try.func26, by kernel_rfl, by kernel_rfl⟩
noncomputable abbrev in_r29_Nobody (ct : CT) : Ent := .st (inlS tt ct n_r29_Nobody k_r29_Nobody rs_r29_Nobody 60 (Try.f26.body.getD .skip))
theorem in_r29_Nobody_ok {ct : CT} (h : CTok Try.prog ct) : EntOk Try.prog f_r29_Nobody (in_r29_Nobody ct) := inl_ok tt_ok h 60 fn_r29_Nobody rfl nt_r29_Nobody rfl cal_r29_Nobody (by kernel_rfl)
@[match_pattern] abbrev f_sched_Queue : Nat := 27
theorem fn_sched_Queue : Try.prog.funcs[f_sched_Queue]? = some Try.f27 := Try.func27
abbrev n_sched_Queue : Nat := 34
theorem nt_sched_Queue : Try.f27.ntmps = n_sched_Queue := Try.ntmps27
abbrev k_sched_Queue : List Nat := [0, 1, 2, 3, 6, 7, 8, 9, 10, 12, 15, 19, 20, 21, 28]
abbrev rs_sched_Queue : List ResultVar := [.cell 6 35, .cell 7 36]
theorem cal_sched_Queue : Sx.Callee Try.prog f_sched_Queue := ⟨_, Try.func27, by kernel_rfl, by kernel_rfl⟩
noncomputable abbrev in_sched_Queue (ct : CT) : Ent := .st (inlS tt ct n_sched_Queue k_sched_Queue rs_sched_Queue 60 (Try.f27.body.getD .skip))
theorem in_sched_Queue_ok {ct : CT} (h : CTok Try.prog ct) : EntOk Try.prog f_sched_Queue (in_sched_Queue ct) := inl_ok tt_ok h 60 fn_sched_Queue rfl nt_sched_Queue rfl cal_sched_Queue (by kernel_rfl)
@[match_pattern] abbrev f_l32_enable : Nat := 28
theorem fn_l32_enable : Try.prog.funcs[f_l32_enable]? = some Try.f28 := Try.func28
abbrev n_l32_enable : Nat := 77
theorem nt_l32_enable : Try.f28.ntmps = n_l32_enable := Try.ntmps28
abbrev k_l32_enable : List Nat := [0, 1, 2, 3, 4, 8, 9, 10, 11, 12, 30, 38, 59, 61]
abbrev rs_l32_enable : List ResultVar := [.cell 8 26, .tmp 9]
theorem cal_l32_enable : Sx.Callee Try.prog f_l32_enable := ⟨_, Try.func28, by kernel_rfl, by kernel_rfl⟩
noncomputable abbrev in_l32_enable (ct : CT) : Ent := .st (inlS tt ct n_l32_enable k_l32_enable rs_l32_enable 60 (Try.f28.body.getD .skip))
theorem in_l32_enable_ok {ct : CT} (h : CTok Try.prog ct) : EntOk Try.prog f_l32_enable (in_l32_enable ct) := inl_ok tt_ok h 60 fn_l32_enable rfl nt_l32_enable rfl cal_l32_enable (by kernel_rfl)
@[match_pattern] abbrev f_mem_Mem_SetWord : Nat := 29
theorem fn_mem_Mem_SetWord : Try.prog.funcs[f_mem_Mem_SetWord]? = some Try.f29 := Try.func29
abbrev n_mem_Mem_SetWord : Nat := 32
theorem nt_mem_Mem_SetWord : Try.f29.ntmps = n_mem_Mem_SetWord := Try.ntmps29
abbrev k_mem_Mem_SetWord : List Nat := [0, 1, 2, 6, 7, 8, 9, 17, 18, 19]
abbrev rs_mem_Mem_SetWord : List ResultVar := [.tmp 6]
theorem cal_mem_Mem_SetWord : Sx.Callee Try.prog f_mem_Mem_SetWord := ⟨_, Try.func29, by kernel_rfl, by kernel_rfl⟩
noncomputable abbrev in_mem_Mem_SetWord (ct : CT) : Ent := .st (inlS tt ct n_mem_Mem_SetWord k_mem_Mem_SetWord rs_mem_Mem_SetWord 60 (Try.f29.body.getD .skip))
theorem in_mem_Mem_SetWord_ok {ct : CT} (h : CTok Try.prog ct) : EntOk Try.prog f_mem_Mem_SetWord (in_mem_Mem_SetWord ct) := inl_ok tt_ok h 60 fn_mem_Mem_SetWord rfl nt_mem_Mem_SetWord rfl cal_mem_Mem_SetWord (by kernel_rfl)
@[match_pattern] abbrev f_sched_Append : Nat := 30
theorem fn_sched_Append : Try.prog.funcs[f_sched_Append]? = some Try.f30 := Try.func30
abbrev n_sched_Append : Nat := 59
theorem nt_sched_Append : Try.f30.ntmps = n_sched_Append := Try.ntmps30
abbrev k_sched_Append : List Nat := [0, 1, 2, 3, 6, 7, 8, 9, 10, 12, 39, 41]
abbrev rs_sched_Append : List ResultVar := [.cell 6 26, .tmp 7]
theorem cal_sched_Append : Sx.Callee Try.prog f_sched_Append := ⟨_, Try.func30, by kernel_rfl, by kernel_rfl⟩
noncomputable abbrev in_sched_Append (ct : CT) : Ent := .st (inlS tt ct n_sched_Append k_sched_Append rs_sched_Append 60 (Try.f30.body.getD .skip))
theorem in_sched_Append_ok {ct : CT} (h : CTok Try.prog ct) : EntOk Try.prog f_sched_Append (in_sched_Append ct) := inl_ok tt_ok h 60 fn_sched_Append rfl nt_sched_Append rfl cal_sched_Append (by kernel_rfl)
@[match_pattern] abbrev f_sched_Settle : Nat := 31
theorem fn_sched_Settle : Try.prog.funcs[f_sched_Settle]? = some Try.f31 := Try.func31
abbrev n_sched_Settle : Nat := 103
theorem nt_sched_Settle : Try.f31.ntmps = n_sched_Settle := Try.ntmps31
abbrev k_sched_Settle : List Nat := [0, 1, 2, 4, 5, 6, 7, 9, 14, 17, 32, 51, 54, 61, 92]
abbrev rs_sched_Settle : List ResultVar := [.cell 4 26, .tmp 5]
theorem cal_sched_Settle : Sx.Callee Try.prog f_sched_Settle := ⟨_, Try.func31, by kernel_rfl, by kernel_rfl⟩
noncomputable abbrev in_sched_Settle (ct : CT) : Ent := .st (inlS tt ct n_sched_Settle k_sched_Settle rs_sched_Settle 60 (Try.f31.body.getD .skip))
theorem in_sched_Settle_ok {ct : CT} (h : CTok Try.prog ct) : EntOk Try.prog f_sched_Settle (in_sched_Settle ct) := inl_ok tt_ok h 60 fn_sched_Settle rfl nt_sched_Settle rfl cal_sched_Settle (by kernel_rfl)
@[match_pattern] abbrev f_l32_chooses : Nat := 32
theorem fn_l32_chooses : Try.prog.funcs[f_l32_chooses]? = some Try.f32 := Try.func32
abbrev n_l32_chooses : Nat := 148
theorem nt_l32_chooses : Try.f32.ntmps = n_l32_chooses := Try.ntmps32
abbrev k_l32_chooses : List Nat := [0, 1, 2, 3, 4, 5, 10, 11, 12, 13, 14, 15, 16, 17, 18, 20, 21, 22, 23, 29, 49, 63, 92, 106, 120]
abbrev rs_l32_chooses : List ResultVar := [.tmp 10]
theorem cal_l32_chooses : Sx.Callee Try.prog f_l32_chooses := ⟨_, Try.func32, by kernel_rfl, by kernel_rfl⟩
noncomputable abbrev in_l32_chooses (ct : CT) : Ent := .st (inlS tt ct n_l32_chooses k_l32_chooses rs_l32_chooses 60 (Try.f32.body.getD .skip))
theorem in_l32_chooses_ok {ct : CT} (h : CTok Try.prog ct) : EntOk Try.prog f_l32_chooses (in_l32_chooses ct) := inl_ok tt_ok h 60 fn_l32_chooses rfl nt_l32_chooses rfl cal_l32_chooses (by kernel_rfl)
@[match_pattern] abbrev f_timer_check : Nat := 33
theorem fn_timer_check : Try.prog.funcs[f_timer_check]? = some Try.f33 := Try.func33
abbrev n_timer_check : Nat := 11
theorem nt_timer_check : Try.f33.ntmps = n_timer_check := Try.ntmps33
abbrev k_timer_check : List Nat := [0, 1, 4, 7, 10]
abbrev rs_timer_check : List ResultVar := [.tmp 4]
theorem cal_timer_check : Sx.Callee Try.prog f_timer_check := ⟨_, Try.func33, by kernel_rfl, by kernel_rfl⟩
noncomputable abbrev in_timer_check (ct : CT) : Ent := .st (inlS tt ct n_timer_check k_timer_check rs_timer_check 60 (Try.f33.body.getD .skip))
theorem in_timer_check_ok {ct : CT} (h : CTok Try.prog ct) : EntOk Try.prog f_timer_check (in_timer_check ct) := inl_ok tt_ok h 60 fn_timer_check rfl nt_timer_check rfl cal_timer_check (by kernel_rfl)
@[match_pattern] abbrev f_timer_try : Nat := 34
theorem fn_timer_try : Try.prog.funcs[f_timer_try]? = some Try.f34 := Try.func34
abbrev n_timer_try : Nat := 14
theorem nt_timer_try : Try.f34.ntmps = n_timer_try := Try.ntmps34
abbrev k_timer_try : List Nat := [0, 1, 2, 4, 5, 6]
abbrev rs_timer_try : List ResultVar := [.cell 4 26, .cell 5 36]
theorem cal_timer_try : Sx.Callee Try.prog f_timer_try := ⟨_, Try.func34, by kernel_rfl, by kernel_rfl⟩
noncomputable abbrev in_timer_try (ct : CT) : Ent := .st (inlS tt ct n_timer_try k_timer_try rs_timer_try 60 (Try.f34.body.getD .skip))
theorem in_timer_try_ok {ct : CT} (h : CTok Try.prog ct) : EntOk Try.prog f_timer_try (in_timer_try ct) := inl_ok tt_ok h 60 fn_timer_try rfl nt_timer_try rfl cal_timer_try (by kernel_rfl)
@[match_pattern] abbrev f_timer_Queue_1 : Nat := 35
theorem fn_timer_Queue_1 : Try.prog.funcs[f_timer_Queue_1]? = some Try.f35 := Try.func35
abbrev n_timer_Queue_1 : Nat := 17
theorem nt_timer_Queue_1 : Try.f35.ntmps = n_timer_Queue_1 := Try.ntmps35
abbrev k_timer_Queue_1 : List Nat := [0, 1, 2, 3, 5, 6, 10, 11]
abbrev rs_timer_Queue_1 : List ResultVar := [.cell 5 26]
theorem cal_timer_Queue_1 : Sx.Callee Try.prog f_timer_Queue_1 := ⟨_, Try.func35, by kernel_rfl, by kernel_rfl⟩
noncomputable abbrev in_timer_Queue_1 (ct : CT) : Ent := .st (inlS tt ct n_timer_Queue_1 k_timer_Queue_1 rs_timer_Queue_1 60 (Try.f35.body.getD .skip))
theorem in_timer_Queue_1_ok {ct : CT} (h : CTok Try.prog ct) : EntOk Try.prog f_timer_Queue_1 (in_timer_Queue_1 ct) := inl_ok tt_ok h 60 fn_timer_Queue_1 rfl nt_timer_Queue_1 rfl cal_timer_Queue_1 (by kernel_rfl)
@[match_pattern] abbrev f_timer_walk : Nat := 36
theorem fn_timer_walk : Try.prog.funcs[f_timer_walk]? = some Try.f36 := Try.func36
abbrev n_timer_walk : Nat := 8
theorem nt_timer_walk : Try.f36.ntmps = n_timer_walk := Try.ntmps36
abbrev k_timer_walk : List Nat := [0, 1, 2, 3, 4, 5, 6]
abbrev rs_timer_walk : List ResultVar := [.tmp 6]
theorem cal_timer_walk : Sx.Callee Try.prog f_timer_walk := ⟨_, Try.func36, by kernel_rfl, by kernel_rfl⟩
noncomputable abbrev in_timer_walk (ct : CT) : Ent := .st (inlS tt ct n_timer_walk k_timer_walk rs_timer_walk 60 (Try.f36.body.getD .skip))
theorem in_timer_walk_ok {ct : CT} (h : CTok Try.prog ct) : EntOk Try.prog f_timer_walk (in_timer_walk ct) := inl_ok tt_ok h 60 fn_timer_walk rfl nt_timer_walk rfl cal_timer_walk (by kernel_rfl)
@[match_pattern] abbrev f_timer_Insert_1 : Nat := 37
theorem fn_timer_Insert_1 : Try.prog.funcs[f_timer_Insert_1]? = some Try.f37 := Try.func37
abbrev n_timer_Insert_1 : Nat := 13
theorem nt_timer_Insert_1 : Try.f37.ntmps = n_timer_Insert_1 := Try.ntmps37
abbrev k_timer_Insert_1 : List Nat := [0, 1, 2, 3, 4, 6]
abbrev rs_timer_Insert_1 : List ResultVar := [.cell 6 26]
theorem cal_timer_Insert_1 : Sx.Callee Try.prog f_timer_Insert_1 := ⟨_, Try.func37, by kernel_rfl, by kernel_rfl⟩
noncomputable abbrev in_timer_Insert_1 (ct : CT) : Ent := .st (inlS tt ct n_timer_Insert_1 k_timer_Insert_1 rs_timer_Insert_1 60 (Try.f37.body.getD .skip))
theorem in_timer_Insert_1_ok {ct : CT} (h : CTok Try.prog ct) : EntOk Try.prog f_timer_Insert_1 (in_timer_Insert_1 ct) := inl_ok tt_ok h 60 fn_timer_Insert_1 rfl nt_timer_Insert_1 rfl cal_timer_Insert_1 (by kernel_rfl)
@[match_pattern] abbrev f_timer_tape_insert : Nat := 38
theorem fn_timer_tape_insert : Try.prog.funcs[f_timer_tape_insert]? = some Try.f38 := Try.func38
abbrev n_timer_tape_insert : Nat := 49
theorem nt_timer_tape_insert : Try.f38.ntmps = n_timer_tape_insert := Try.ntmps38
abbrev k_timer_tape_insert : List Nat := [0, 1, 2, 3, 4, 5, 6, 8, 10, 11, 12, 13, 20, 26, 27, 32]
abbrev rs_timer_tape_insert : List ResultVar := [.cell 10 26]
theorem cal_timer_tape_insert : Sx.Callee Try.prog f_timer_tape_insert := ⟨_, Try.func38, by kernel_rfl, by kernel_rfl⟩
noncomputable abbrev in_timer_tape_insert (ct : CT) : Ent := .st (inlS tt ct n_timer_tape_insert k_timer_tape_insert rs_timer_tape_insert 60 (Try.f38.body.getD .skip))
theorem in_timer_tape_insert_ok {ct : CT} (h : CTok Try.prog ct) : EntOk Try.prog f_timer_tape_insert (in_timer_tape_insert ct) := inl_ok tt_ok h 60 fn_timer_tape_insert rfl nt_timer_tape_insert rfl cal_timer_tape_insert (by kernel_rfl)
@[match_pattern] abbrev f_timer_Remove_1 : Nat := 39
theorem fn_timer_Remove_1 : Try.prog.funcs[f_timer_Remove_1]? = some Try.f39 := Try.func39
abbrev n_timer_Remove_1 : Nat := 16
theorem nt_timer_Remove_1 : Try.f39.ntmps = n_timer_Remove_1 := Try.ntmps39
abbrev k_timer_Remove_1 : List Nat := [0, 1, 2, 3, 4, 6]
abbrev rs_timer_Remove_1 : List ResultVar := [.cell 6 26]
theorem cal_timer_Remove_1 : Sx.Callee Try.prog f_timer_Remove_1 := ⟨_, Try.func39, by kernel_rfl, by kernel_rfl⟩
noncomputable abbrev in_timer_Remove_1 (ct : CT) : Ent := .st (inlS tt ct n_timer_Remove_1 k_timer_Remove_1 rs_timer_Remove_1 60 (Try.f39.body.getD .skip))
theorem in_timer_Remove_1_ok {ct : CT} (h : CTok Try.prog ct) : EntOk Try.prog f_timer_Remove_1 (in_timer_Remove_1 ct) := inl_ok tt_ok h 60 fn_timer_Remove_1 rfl nt_timer_Remove_1 rfl cal_timer_Remove_1 (by kernel_rfl)
@[match_pattern] abbrev f_timer_tape_remove : Nat := 40
theorem fn_timer_tape_remove : Try.prog.funcs[f_timer_tape_remove]? = some Try.f40 := Try.func40
abbrev n_timer_tape_remove : Nat := 30
theorem nt_timer_tape_remove : Try.f40.ntmps = n_timer_tape_remove := Try.ntmps40
abbrev k_timer_tape_remove : List Nat := [0, 1, 2, 3, 4, 5, 6, 7, 8, 9, 10, 11, 15, 16, 19]
abbrev rs_timer_tape_remove : List ResultVar := [.cell 8 26, .cell 9 4]
theorem cal_timer_tape_remove : Sx.Callee Try.prog f_timer_tape_remove := ⟨_, Try.func40, by kernel_rfl, by kernel_rfl⟩
noncomputable abbrev in_timer_tape_remove (ct : CT) : Ent := .st (inlS tt ct n_timer_tape_remove k_timer_tape_remove rs_timer_tape_remove 60 (Try.f40.body.getD .skip))
theorem in_timer_tape_remove_ok {ct : CT} (h : CTok Try.prog ct) : EntOk Try.prog f_timer_tape_remove (in_timer_tape_remove ct) := inl_ok tt_ok h 60 fn_timer_tape_remove rfl nt_timer_tape_remove rfl cal_timer_tape_remove (by kernel_rfl)
@[match_pattern] abbrev f_mem_Mem_Size : Nat := 41
theorem fn_mem_Mem_Size : Try.prog.funcs[f_mem_Mem_Size]? = some Try.f41 := Try.func41
abbrev n_mem_Mem_Size : Nat := 10
theorem nt_mem_Mem_Size : Try.f41.ntmps = n_mem_Mem_Size := Try.ntmps41
abbrev k_mem_Mem_Size : List Nat := [0, 2, 4]
abbrev rs_mem_Mem_Size : List ResultVar := [.tmp 2]
theorem cal_mem_Mem_Size : Sx.Callee Try.prog f_mem_Mem_Size := ⟨_, Try.func41, by kernel_rfl, by kernel_rfl⟩
noncomputable abbrev in_mem_Mem_Size (ct : CT) : Ent := .st (inlS tt ct n_mem_Mem_Size k_mem_Mem_Size rs_mem_Mem_Size 60 (Try.f41.body.getD .skip))
theorem in_mem_Mem_Size_ok {ct : CT} (h : CTok Try.prog ct) : EntOk Try.prog f_mem_Mem_Size (in_mem_Mem_Size ct) := inl_ok tt_ok h 60 fn_mem_Mem_Size rfl nt_mem_Mem_Size rfl cal_mem_Mem_Size (by kernel_rfl)
@[match_pattern] abbrev f_timer_Tick_1 : Nat := 42
theorem fn_timer_Tick_1 : Try.prog.funcs[f_timer_Tick_1]? = some Try.f42 := Try.func42
abbrev n_timer_Tick_1 : Nat := 46
theorem nt_timer_Tick_1 : Try.f42.ntmps = n_timer_Tick_1 := Try.ntmps42
abbrev k_timer_Tick_1 : List Nat := [0, 1, 2, 4, 5, 6, 7, 8, 9, 15, 25, 35, 37]
abbrev rs_timer_Tick_1 : List ResultVar := [.cell 4 26]
theorem cal_timer_Tick_1 : Sx.Callee Try.prog f_timer_Tick_1 := ⟨_, Try.func42, by kernel_rfl, by kernel_rfl⟩
noncomputable abbrev in_timer_Tick_1 (ct : CT) : Ent := .st (inlS tt ct n_timer_Tick_1 k_timer_Tick_1 rs_timer_Tick_1 60 (Try.f42.body.getD .skip))
theorem in_timer_Tick_1_ok {ct : CT} (h : CTok Try.prog ct) : EntOk Try.prog f_timer_Tick_1 (in_timer_Tick_1 ct) := inl_ok tt_ok h 60 fn_timer_Tick_1 rfl nt_timer_Tick_1 rfl cal_timer_Tick_1 (by kernel_rfl)
@[match_pattern] abbrev f_timer_valid : Nat := 43
theorem fn_timer_valid : Try.prog.funcs[f_timer_valid]? = some Try.f43 := Try.func43
abbrev n_timer_valid : Nat := 23
theorem nt_timer_valid : Try.f43.ntmps = n_timer_valid := Try.ntmps43
abbrev k_timer_valid : List Nat := [0, 1, 4, 5]
abbrev rs_timer_valid : List ResultVar := [.tmp 4]
theorem cal_timer_valid : Sx.Callee Try.prog f_timer_valid := ⟨_, Try.func43, by kernel_rfl, by kernel_rfl⟩
noncomputable abbrev in_timer_valid (ct : CT) : Ent := .st (inlS tt ct n_timer_valid k_timer_valid rs_timer_valid 60 (Try.f43.body.getD .skip))
theorem in_timer_valid_ok {ct : CT} (h : CTok Try.prog ct) : EntOk Try.prog f_timer_valid (in_timer_valid ct) := inl_ok tt_ok h 60 fn_timer_valid rfl nt_timer_valid rfl cal_timer_valid (by kernel_rfl)
@[match_pattern] abbrev f_word_After : Nat := 44
theorem fn_word_After : Try.prog.funcs[f_word_After]? = some Try.f44 := Try.func44
abbrev n_word_After : Nat := 9
theorem nt_word_After : Try.f44.ntmps = n_word_After := Try.ntmps44
abbrev k_word_After : List Nat := [0, 1, 4]
abbrev rs_word_After : List ResultVar := [.tmp 4]
theorem cal_word_After : Sx.Callee Try.prog f_word_After := ⟨_, Try.func44, by kernel_rfl, by kernel_rfl⟩
noncomputable abbrev in_word_After (ct : CT) : Ent := .st (inlS tt ct n_word_After k_word_After rs_word_After 60 (Try.f44.body.getD .skip))
theorem in_word_After_ok {ct : CT} (h : CTok Try.prog ct) : EntOk Try.prog f_word_After (in_word_After ct) := inl_ok tt_ok h 60 fn_word_After rfl nt_word_After rfl cal_word_After (by kernel_rfl)
@[match_pattern] abbrev f_timer_tape_get : Nat := 45
theorem fn_timer_tape_get : Try.prog.funcs[f_timer_tape_get]? = some Try.f45 := Try.func45
abbrev n_timer_tape_get : Nat := 22
theorem nt_timer_tape_get : Try.f45.ntmps = n_timer_tape_get := Try.ntmps45
abbrev k_timer_tape_get : List Nat := [0, 1, 2, 6, 7]
abbrev rs_timer_tape_get : List ResultVar := [.tmp 6]
theorem cal_timer_tape_get : Sx.Callee Try.prog f_timer_tape_get := ⟨_, Try.func45, by kernel_rfl, by kernel_rfl⟩
noncomputable abbrev in_timer_tape_get (ct : CT) : Ent := .st (inlS tt ct n_timer_tape_get k_timer_tape_get rs_timer_tape_get 60 (Try.f45.body.getD .skip))
theorem in_timer_tape_get_ok {ct : CT} (h : CTok Try.prog ct) : EntOk Try.prog f_timer_tape_get (in_timer_tape_get ct) := inl_ok tt_ok h 60 fn_timer_tape_get rfl nt_timer_tape_get rfl cal_timer_tape_get (by kernel_rfl)
@[match_pattern] abbrev f_timer_tape_wake : Nat := 46
theorem fn_timer_tape_wake : Try.prog.funcs[f_timer_tape_wake]? = some Try.f46 := Try.func46
abbrev n_timer_tape_wake : Nat := 84
theorem nt_timer_tape_wake : Try.f46.ntmps = n_timer_tape_wake := Try.ntmps46
abbrev k_timer_tape_wake : List Nat := [0, 1, 2, 4, 6, 7, 8, 9, 33, 53, 80]
abbrev rs_timer_tape_wake : List ResultVar := [.cell 6 26]
theorem cal_timer_tape_wake : Sx.Callee Try.prog f_timer_tape_wake := ⟨_, Try.func46, by kernel_rfl, by kernel_rfl⟩
noncomputable abbrev in_timer_tape_wake (ct : CT) : Ent := .st (inlS tt ct n_timer_tape_wake k_timer_tape_wake rs_timer_tape_wake 60 (Try.f46.body.getD .skip))
theorem in_timer_tape_wake_ok {ct : CT} (h : CTok Try.prog ct) : EntOk Try.prog f_timer_tape_wake (in_timer_tape_wake ct) := inl_ok tt_ok h 60 fn_timer_tape_wake rfl nt_timer_tape_wake rfl cal_timer_tape_wake (by kernel_rfl)
@[match_pattern] abbrev f_timer_Exec_1 : Nat := 47
theorem fn_timer_Exec_1 : Try.prog.funcs[f_timer_Exec_1]? = some Try.f47 := Try.func47
abbrev n_timer_Exec_1 : Nat := 10
theorem nt_timer_Exec_1 : Try.f47.ntmps = n_timer_Exec_1 := Try.ntmps47
abbrev k_timer_Exec_1 : List Nat := [0, 1, 2, 4]
abbrev rs_timer_Exec_1 : List ResultVar := [.cell 4 26]
theorem cal_timer_Exec_1 : Sx.Callee Try.prog f_timer_Exec_1 := ⟨_, Try.func47, by kernel_rfl, by kernel_rfl⟩
noncomputable abbrev in_timer_Exec_1 (ct : CT) : Ent := .st (inlS tt ct n_timer_Exec_1 k_timer_Exec_1 rs_timer_Exec_1 60 (Try.f47.body.getD .skip))
theorem in_timer_Exec_1_ok {ct : CT} (h : CTok Try.prog ct) : EntOk Try.prog f_timer_Exec_1 (in_timer_Exec_1 ct) := inl_ok tt_ok h 60 fn_timer_Exec_1 rfl nt_timer_Exec_1 rfl cal_timer_Exec_1 (by kernel_rfl)
@[match_pattern] abbrev f_timer_tape_exec : Nat := 48
theorem fn_timer_tape_exec : Try.prog.funcs[f_timer_tape_exec]? = some Try.f48 := Try.func48
abbrev n_timer_tape_exec : Nat := 92
theorem nt_timer_tape_exec : Try.f48.ntmps = n_timer_tape_exec := Try.ntmps48
abbrev k_timer_tape_exec : List Nat := [0, 1, 2, 4, 6, 7, 13, 14, 25, 48, 51, 52, 58, 65, 75, 80, 86]
abbrev rs_timer_tape_exec : List ResultVar := [.cell 6 26]
theorem cal_timer_tape_exec : Sx.Callee Try.prog f_timer_tape_exec := ⟨_, Try.func48, by kernel_rfl, by kernel_rfl⟩
noncomputable abbrev in_timer_tape_exec (ct : CT) : Ent := .st (inlS tt ct n_timer_tape_exec k_timer_tape_exec rs_timer_tape_exec 60 (Try.f48.body.getD .skip))
theorem in_timer_tape_exec_ok {ct : CT} (h : CTok Try.prog ct) : EntOk Try.prog f_timer_tape_exec (in_timer_tape_exec ct) := inl_ok tt_ok h 60 fn_timer_tape_exec rfl nt_timer_tape_exec rfl cal_timer_tape_exec (by kernel_rfl)
@[match_pattern] abbrev f_mem_may : Nat := 49
theorem fn_mem_may : Try.prog.funcs[f_mem_may]? = some Try.f49 := Try.func49
abbrev n_mem_may : Nat := 14
theorem nt_mem_may : Try.f49.ntmps = n_mem_may := Try.ntmps49
abbrev k_mem_may : List Nat := [0, 2]
abbrev rs_mem_may : List ResultVar := [.tmp 2]
theorem cal_mem_may : Sx.Callee Try.prog f_mem_may := ⟨_, Try.func49, by kernel_rfl, by kernel_rfl⟩
noncomputable abbrev in_mem_may (ct : CT) : Ent := .st (inlS tt ct n_mem_may k_mem_may rs_mem_may 60 (Try.f49.body.getD .skip))
theorem in_mem_may_ok {ct : CT} (h : CTok Try.prog ct) : EntOk Try.prog f_mem_may (in_mem_may ct) := inl_ok tt_ok h 60 fn_mem_may rfl nt_mem_may rfl cal_mem_may (by kernel_rfl)
@[match_pattern] abbrev f_r32_Insert : Nat := 50
theorem fn_r32_Insert : Try.prog.funcs[f_r32_Insert]? = some Try.f50 := Try.func50
abbrev n_r32_Insert : Nat := 94
theorem nt_r32_Insert : Try.f50.ntmps = n_r32_Insert := Try.ntmps50
abbrev k_r32_Insert : List Nat := [0, 1, 2, 3, 4, 5, 10, 11, 12, 13, 14, 15, 16, 17, 23, 29, 53, 63, 69]
abbrev rs_r32_Insert : List ResultVar := [.cell 10 26, .tmp 11, .tmp 12]
theorem cal_r32_Insert : Sx.Callee Try.prog f_r32_Insert := ⟨_, Try.func50, by kernel_rfl, by kernel_rfl⟩
noncomputable abbrev in_r32_Insert (ct : CT) : Ent := .st (inlS tt ct n_r32_Insert k_r32_Insert rs_r32_Insert 60 (Try.f50.body.getD .skip))
theorem in_r32_Insert_ok {ct : CT} (h : CTok Try.prog ct) : EntOk Try.prog f_r32_Insert (in_r32_Insert ct) := inl_ok tt_ok h 60 fn_r32_Insert rfl nt_r32_Insert rfl cal_r32_Insert (by kernel_rfl)
@[match_pattern] abbrev f_r32_Remove : Nat := 51
theorem fn_r32_Remove : Try.prog.funcs[f_r32_Remove]? = some Try.f51 := Try.func51
abbrev n_r32_Remove : Nat := 74
theorem nt_r32_Remove : Try.f51.ntmps = n_r32_Remove := Try.ntmps51
abbrev k_r32_Remove : List Nat := [0, 1, 2, 3, 4, 8, 9, 10, 11, 12, 13, 14, 20, 41, 51, 57]
abbrev rs_r32_Remove : List ResultVar := [.cell 8 26, .tmp 9, .tmp 10]
theorem cal_r32_Remove : Sx.Callee Try.prog f_r32_Remove := ⟨_, Try.func51, by kernel_rfl, by kernel_rfl⟩
noncomputable abbrev in_r32_Remove (ct : CT) : Ent := .st (inlS tt ct n_r32_Remove k_r32_Remove rs_r32_Remove 60 (Try.f51.body.getD .skip))
theorem in_r32_Remove_ok {ct : CT} (h : CTok Try.prog ct) : EntOk Try.prog f_r32_Remove (in_r32_Remove ct) := inl_ok tt_ok h 60 fn_r32_Remove rfl nt_r32_Remove rfl cal_r32_Remove (by kernel_rfl)
@[match_pattern] abbrev f_r32_Tick : Nat := 52
theorem fn_r32_Tick : Try.prog.funcs[f_r32_Tick]? = some Try.f52 := Try.func52
abbrev n_r32_Tick : Nat := 73
theorem nt_r32_Tick : Try.f52.ntmps = n_r32_Tick := Try.ntmps52
abbrev k_r32_Tick : List Nat := [0, 1, 2, 4, 5, 6, 7, 8, 9, 10, 11, 12, 14, 30, 44, 50, 66]
abbrev rs_r32_Tick : List ResultVar := [.cell 4 26, .tmp 5, .tmp 6]
theorem cal_r32_Tick : Sx.Callee Try.prog f_r32_Tick := ⟨_, Try.func52, by kernel_rfl, by kernel_rfl⟩
noncomputable abbrev in_r32_Tick (ct : CT) : Ent := .st (inlS tt ct n_r32_Tick k_r32_Tick rs_r32_Tick 60 (Try.f52.body.getD .skip))
theorem in_r32_Tick_ok {ct : CT} (h : CTok Try.prog ct) : EntOk Try.prog f_r32_Tick (in_r32_Tick ct) := inl_ok tt_ok h 60 fn_r32_Tick rfl nt_r32_Tick rfl cal_r32_Tick (by kernel_rfl)
@[match_pattern] abbrev f_r32_Exec : Nat := 53
theorem fn_r32_Exec : Try.prog.funcs[f_r32_Exec]? = some Try.f53 := Try.func53
abbrev n_r32_Exec : Nat := 129
theorem nt_r32_Exec : Try.f53.ntmps = n_r32_Exec := Try.ntmps53
abbrev k_r32_Exec : List Nat := [0, 1, 2, 3, 5, 6, 7, 8, 16, 21, 26, 31, 48, 70, 74, 75, 84, 96, 107, 115]
abbrev rs_r32_Exec : List ResultVar := [.cell 6 26, .tmp 7, .tmp 8]
theorem cal_r32_Exec : Sx.Callee Try.prog f_r32_Exec := ⟨_, Try.func53, by kernel_rfl, by kernel_rfl⟩
noncomputable abbrev in_r32_Exec (ct : CT) : Ent := .st (inlS tt ct n_r32_Exec k_r32_Exec rs_r32_Exec 60 (Try.f53.body.getD .skip))
theorem in_r32_Exec_ok {ct : CT} (h : CTok Try.prog ct) : EntOk Try.prog f_r32_Exec (in_r32_Exec ct) := inl_ok tt_ok h 60 fn_r32_Exec rfl nt_r32_Exec rfl cal_r32_Exec (by kernel_rfl)
@[match_pattern] abbrev f_r03_SetWord : Nat := 54
theorem fn_r03_SetWord : Try.prog.funcs[f_r03_SetWord]? = some Try.f54 := Try.func54
abbrev n_r03_SetWord : Nat := 25
theorem nt_r03_SetWord : Try.f54.ntmps = n_r03_SetWord := Try.ntmps54
abbrev k_r03_SetWord : List Nat := [0, 1, 2, 6, 7, 8, 13]
abbrev rs_r03_SetWord : List ResultVar := [.tmp 6, .tmp 7]
theorem cal_r03_SetWord : Sx.Callee Try.prog f_r03_SetWord := ⟨_, Try.func54, by kernel_rfl, by kernel_rfl⟩
noncomputable abbrev in_r03_SetWord (ct : CT) : Ent := .st (inlS tt ct n_r03_SetWord k_r03_SetWord rs_r03_SetWord 60 (Try.f54.body.getD .skip))
theorem in_r03_SetWord_ok {ct : CT} (h : CTok Try.prog ct) : EntOk Try.prog f_r03_SetWord (in_r03_SetWord ct) := inl_ok tt_ok h 60 fn_r03_SetWord rfl nt_r03_SetWord rfl cal_r03_SetWord (by kernel_rfl)
@[match_pattern] abbrev f_l32_changed : Nat := 55
theorem fn_l32_changed : Try.prog.funcs[f_l32_changed]? = some Try.f55 := Try.func55
abbrev n_l32_changed : Nat := 72
theorem nt_l32_changed : Try.f55.ntmps = n_l32_changed := Try.ntmps55
abbrev k_l32_changed : List Nat := [0, 1, 2, 3, 6, 9, 14, 18, 22, 26, 30, 35, 41, 46, 51, 55, 63]
abbrev rs_l32_changed : List ResultVar := [.cell 6 26]
theorem cal_l32_changed : Sx.Callee Try.prog f_l32_changed := ⟨_, Try.func55, by kernel_rfl, by kernel_rfl⟩
noncomputable abbrev in_l32_changed (ct : CT) : Ent := .st (inlS tt ct n_l32_changed k_l32_changed rs_l32_changed 60 (Try.f55.body.getD .skip))
theorem in_l32_changed_ok {ct : CT} (h : CTok Try.prog ct) : EntOk Try.prog f_l32_changed (in_l32_changed ct) := inl_ok tt_ok h 60 fn_l32_changed rfl nt_l32_changed rfl cal_l32_changed (by kernel_rfl)
@[match_pattern] abbrev f_r32_Queue : Nat := 56
theorem fn_r32_Queue : Try.prog.funcs[f_r32_Queue]? = some Try.f56 := Try.func56
abbrev n_r32_Queue : Nat := 26
theorem nt_r32_Queue : Try.f56.ntmps = n_r32_Queue := Try.ntmps56
abbrev k_r32_Queue : List Nat := [0, 1, 2, 3, 6, 7, 8, 9, 15, 24]
abbrev rs_r32_Queue : List ResultVar := [.tmp 6, .tmp 7]
theorem cal_r32_Queue : Sx.Callee Try.prog f_r32_Queue := ⟨_, Try.func56, by kernel_rfl, by kernel_rfl⟩
noncomputable abbrev in_r32_Queue (ct : CT) : Ent := .st (inlS tt ct n_r32_Queue k_r32_Queue rs_r32_Queue 60 (Try.f56.body.getD .skip))
theorem in_r32_Queue_ok {ct : CT} (h : CTok Try.prog ct) : EntOk Try.prog f_r32_Queue (in_r32_Queue ct) := inl_ok tt_ok h 60 fn_r32_Queue rfl nt_r32_Queue rfl cal_r32_Queue (by kernel_rfl)
@[match_pattern] abbrev f_r03_Same : Nat := 57
theorem fn_r03_Same : Try.prog.funcs[f_r03_Same]? = some Try.f57 := Try.func57
abbrev n_r03_Same : Nat := 10
theorem nt_r03_Same : Try.f57.ntmps = n_r03_Same := Try.ntmps57
abbrev k_r03_Same : List Nat := [0, 1, 4]
abbrev rs_r03_Same : List ResultVar := [.tmp 4]
theorem cal_r03_Same : Sx.Callee Try.prog f_r03_Same := ⟨_, Try.func57, by kernel_rfl, by kernel_rfl⟩
noncomputable abbrev in_r03_Same (ct : CT) : Ent := .st (inlS tt ct n_r03_Same k_r03_Same rs_r03_Same 60 (Try.f57.body.getD .skip))
theorem in_r03_Same_ok {ct : CT} (h : CTok Try.prog ct) : EntOk Try.prog f_r03_Same (in_r03_Same ct) := inl_ok tt_ok h 60 fn_r03_Same rfl nt_r03_Same rfl cal_r03_Same (by kernel_rfl)
@[match_pattern] abbrev f_mem_Mem_Bytes : Nat := 58
theorem fn_mem_Mem_Bytes : Try.prog.funcs[f_mem_Mem_Bytes]? = some Try.f58 := Try.func58
abbrev n_mem_Mem_Bytes : Nat := 19
theorem nt_mem_Mem_Bytes : Try.f58.ntmps = n_mem_Mem_Bytes := Try.ntmps58
abbrev k_mem_Mem_Bytes : List Nat := [0, 2, 3, 5]
abbrev rs_mem_Mem_Bytes : List ResultVar := [.tmp 2]
theorem cal_mem_Mem_Bytes : Sx.Callee Try.prog f_mem_Mem_Bytes := ⟨_, Try.func58, by kernel_rfl, by kernel_rfl⟩
noncomputable abbrev in_mem_Mem_Bytes (ct : CT) : Ent := .st (inlS tt ct n_mem_Mem_Bytes k_mem_Mem_Bytes rs_mem_Mem_Bytes 60 (Try.f58.body.getD .skip))
theorem in_mem_Mem_Bytes_ok {ct : CT} (h : CTok Try.prog ct) : EntOk Try.prog f_mem_Mem_Bytes (in_mem_Mem_Bytes ct) := inl_ok tt_ok h 60 fn_mem_Mem_Bytes rfl nt_mem_Mem_Bytes rfl cal_mem_Mem_Bytes (by kernel_rfl)
@[match_pattern] abbrev f_sched_none : Nat := 59
theorem fn_sched_none : Try.prog.funcs[f_sched_none]? = some Try.f59 := Try.func59
abbrev n_sched_none : Nat := 6
theorem nt_sched_none : Try.f59.ntmps = n_sched_none := Try.ntmps59
abbrev k_sched_none : List Nat := [0, 2]
abbrev rs_sched_none : List ResultVar := [.tmp 2]
theorem cal_sched_none : Sx.Callee Try.prog f_sched_none := ⟨_, Try.func59, by kernel_rfl, by kernel_rfl⟩
noncomputable abbrev in_sched_none (ct : CT) : Ent := .st (inlS tt ct n_sched_none k_sched_none rs_sched_none 60 (Try.f59.body.getD .skip))
theorem in_sched_none_ok {ct : CT} (h : CTok Try.prog ct) : EntOk Try.prog f_sched_none (in_sched_none ct) := inl_ok tt_ok h 60 fn_sched_none rfl nt_sched_none rfl cal_sched_none (by kernel_rfl)
@[match_pattern] abbrev f_sched_chain : Nat := 60
theorem fn_sched_chain : Try.prog.funcs[f_sched_chain]? = some Try.f60 := Try.func60
abbrev n_sched_chain : Nat := 8
theorem nt_sched_chain : Try.f60.ntmps = n_sched_chain := Try.ntmps60
abbrev k_sched_chain : List Nat := [0, 1, 2, 3, 4, 5, 6]
abbrev rs_sched_chain : List ResultVar := [.tmp 6]
theorem cal_sched_chain : Sx.Callee Try.prog f_sched_chain := ⟨_, Try.func60, by kernel_rfl, by kernel_rfl⟩
noncomputable abbrev in_sched_chain (ct : CT) : Ent := .st (inlS tt ct n_sched_chain k_sched_chain rs_sched_chain 60 (Try.f60.body.getD .skip))
theorem in_sched_chain_ok {ct : CT} (h : CTok Try.prog ct) : EntOk Try.prog f_sched_chain (in_sched_chain ct) := inl_ok tt_ok h 60 fn_sched_chain rfl nt_sched_chain rfl cal_sched_chain (by kernel_rfl)
@[match_pattern] abbrev f_mem_Mem_word : Nat := 61
theorem fn_mem_Mem_word : Try.prog.funcs[f_mem_Mem_word]? = some Try.f61 := Try.func61
abbrev n_mem_Mem_word : Nat := 12
theorem nt_mem_Mem_word : Try.f61.ntmps = n_mem_Mem_word := Try.ntmps61
abbrev k_mem_Mem_word : List Nat := [0, 1, 4, 5]
abbrev rs_mem_Mem_word : List ResultVar := [.tmp 4, .tmp 5]
theorem cal_mem_Mem_word : Sx.Callee Try.prog f_mem_Mem_word := ⟨_, Try.func61, by kernel_rfl, by kernel_rfl⟩
noncomputable abbrev in_mem_Mem_word (ct : CT) : Ent := .st (inlS tt ct n_mem_Mem_word k_mem_Mem_word rs_mem_Mem_word 60 (Try.f61.body.getD .skip))
theorem in_mem_Mem_word_ok {ct : CT} (h : CTok Try.prog ct) : EntOk Try.prog f_mem_Mem_word (in_mem_Mem_word ct) := inl_ok tt_ok h 60 fn_mem_Mem_word rfl nt_mem_Mem_word rfl cal_mem_Mem_word (by kernel_rfl)
@[match_pattern] abbrev f_sched_valid : Nat := 62
theorem fn_sched_valid : Try.prog.funcs[f_sched_valid]? = some Try.f62 := Try.func62
abbrev n_sched_valid : Nat := 23
theorem nt_sched_valid : Try.f62.ntmps = n_sched_valid := Try.ntmps62
abbrev k_sched_valid : List Nat := [0, 1, 4, 5]
abbrev rs_sched_valid : List ResultVar := [.tmp 4]
theorem cal_sched_valid : Sx.Callee Try.prog f_sched_valid := ⟨_, Try.func62, by kernel_rfl, by kernel_rfl⟩
noncomputable abbrev in_sched_valid (ct : CT) : Ent := .st (inlS tt ct n_sched_valid k_sched_valid rs_sched_valid 60 (Try.f62.body.getD .skip))
theorem in_sched_valid_ok {ct : CT} (h : CTok Try.prog ct) : EntOk Try.prog f_sched_valid (in_sched_valid ct) := inl_ok tt_ok h 60 fn_sched_valid rfl nt_sched_valid rfl cal_sched_valid (by kernel_rfl)
@[match_pattern] abbrev f_sched_nobody : Nat := 63
theorem fn_sched_nobody : Try.prog.funcs[f_sched_nobody]? = some Try.f63 := Try.func63
abbrev n_sched_nobody : Nat := 13
theorem nt_sched_nobody : Try.f63.ntmps = n_sched_nobody := Try.ntmps63
abbrev k_sched_nobody : List Nat := [0, 1, 2]
abbrev rs_sched_nobody : List ResultVar := [.cell 2 26]
theorem cal_sched_nobody : Sx.Callee Try.prog f_sched_nobody := ⟨_, Try.func63, by kernel_rfl, by kernel_rfl⟩
noncomputable abbrev in_sched_nobody (ct : CT) : Ent := .st (inlS tt ct n_sched_nobody k_sched_nobody rs_sched_nobody 60 (Try.f63.body.getD .skip))
theorem in_sched_nobody_ok {ct : CT} (h : CTok Try.prog ct) : EntOk Try.prog f_sched_nobody (in_sched_nobody ct) := inl_ok tt_ok h 60 fn_sched_nobody rfl nt_sched_nobody rfl cal_sched_nobody (by kernel_rfl)
@[match_pattern] abbrev f_sched_start : Nat := 64
theorem fn_sched_start : Try.prog.funcs[f_sched_start]? = some Try.f64 := Try.func64
abbrev n_sched_start : Nat := 34
theorem nt_sched_start : Try.f64.ntmps = n_sched_start := Try.ntmps64
abbrev k_sched_start : List Nat := [0, 1, 2, 3, 6, 7, 8, 9, 19]
abbrev rs_sched_start : List ResultVar := [.cell 6 26, .tmp 7]
theorem cal_sched_start : Sx.Callee Try.prog f_sched_start := ⟨_, Try.func64, by kernel_rfl, by kernel_rfl⟩
noncomputable abbrev in_sched_start (ct : CT) : Ent := .st (inlS tt ct n_sched_start k_sched_start rs_sched_start 60 (Try.f64.body.getD .skip))
theorem in_sched_start_ok {ct : CT} (h : CTok Try.prog ct) : EntOk Try.prog f_sched_start (in_sched_start ct) := inl_ok tt_ok h 60 fn_sched_start rfl nt_sched_start rfl cal_sched_start (by kernel_rfl)
@[match_pattern] abbrev f_mem_Mem_Word : Nat := 65
theorem fn_mem_Mem_Word : Try.prog.funcs[f_mem_Mem_Word]? = some Try.f65 := Try.func65
abbrev n_mem_Mem_Word : Nat := 40
theorem nt_mem_Mem_Word : Try.f65.ntmps = n_mem_Mem_Word := Try.ntmps65
abbrev k_mem_Mem_Word : List Nat := [0, 1, 4, 5, 6, 7, 15]
abbrev rs_mem_Mem_Word : List ResultVar := [.tmp 4, .tmp 5]
theorem cal_mem_Mem_Word : Sx.Callee Try.prog f_mem_Mem_Word := ⟨_, Try.func65, by kernel_rfl, by kernel_rfl⟩
noncomputable abbrev in_mem_Mem_Word (ct : CT) : Ent := .st (inlS tt ct n_mem_Mem_Word k_mem_Mem_Word rs_mem_Mem_Word 60 (Try.f65.body.getD .skip))
theorem in_mem_Mem_Word_ok {ct : CT} (h : CTok Try.prog ct) : EntOk Try.prog f_mem_Mem_Word (in_mem_Mem_Word ct) := inl_ok tt_ok h 60 fn_mem_Mem_Word rfl nt_mem_Mem_Word rfl cal_mem_Mem_Word (by kernel_rfl)
@[match_pattern] abbrev f_timer_try_1 : Nat := 66
theorem fn_timer_try_1 : Try.prog.funcs[f_timer_try_1]? = some Try.f66 := Try.func66
abbrev n_timer_try_1 : Nat := 38
theorem nt_timer_try_1 : Try.f66.ntmps = n_timer_try_1 := Try.ntmps66
abbrev k_timer_try_1 : List Nat := [0, 1, 2, 3, 4, 5, 8, 16]
abbrev rs_timer_try_1 : List ResultVar := []
theorem cal_timer_try_1 : Sx.Callee Try.prog f_timer_try_1 := ⟨_, Try.func66, by kernel_rfl, by kernel_rfl⟩
noncomputable abbrev in_timer_try_1 (ct : CT) : Ent := .st (inlS tt ct n_timer_try_1 k_timer_try_1 rs_timer_try_1 60 (Try.f66.body.getD .skip))
theorem in_timer_try_1_ok {ct : CT} (h : CTok Try.prog ct) : EntOk Try.prog f_timer_try_1 (in_timer_try_1 ct) := inl_ok tt_ok h 60 fn_timer_try_1 rfl nt_timer_try_1 rfl cal_timer_try_1 (by kernel_rfl)
@[match_pattern] abbrev f_timer_walk_1 : Nat := 67
theorem fn_timer_walk_1 : Try.prog.funcs[f_timer_walk_1]? = some Try.f67 := Try.func67
abbrev n_timer_walk_1 : Nat := 35
theorem nt_timer_walk_1 : Try.f67.ntmps = n_timer_walk_1 := Try.ntmps67
abbrev k_timer_walk_1 : List Nat := [0, 1, 2, 3, 5, 6, 12, 28, 34]
abbrev rs_timer_walk_1 : List ResultVar := []
theorem cal_timer_walk_1 : Sx.Callee Try.prog f_timer_walk_1 := ⟨_, Try.func67, by kernel_rfl, by kernel_rfl⟩
noncomputable abbrev in_timer_walk_1 (ct : CT) : Ent := .st (inlS tt ct n_timer_walk_1 k_timer_walk_1 rs_timer_walk_1 60 (Try.f67.body.getD .skip))
theorem in_timer_walk_1_ok {ct : CT} (h : CTok Try.prog ct) : EntOk Try.prog f_timer_walk_1 (in_timer_walk_1 ct) := inl_ok tt_ok h 60 fn_timer_walk_1 rfl nt_timer_walk_1 rfl cal_timer_walk_1 (by kernel_rfl)
@[match_pattern] abbrev f_timer_tape_set : Nat := 68
theorem fn_timer_tape_set : Try.prog.funcs[f_timer_tape_set]? = some Try.f68 := Try.func68
abbrev n_timer_tape_set : Nat := 36
theorem nt_timer_tape_set : Try.f68.ntmps = n_timer_tape_set := Try.ntmps68
abbrev k_timer_tape_set : List Nat := [0, 1, 2, 3]
abbrev rs_timer_tape_set : List ResultVar := []
theorem cal_timer_tape_set : Sx.Callee Try.prog f_timer_tape_set := ⟨_, Try.func68, by kernel_rfl, by kernel_rfl⟩
noncomputable abbrev in_timer_tape_set (ct : CT) : Ent := .st (inlS tt ct n_timer_tape_set k_timer_tape_set rs_timer_tape_set 60 (Try.f68.body.getD .skip))
theorem in_timer_tape_set_ok {ct : CT} (h : CTok Try.prog ct) : EntOk Try.prog f_timer_tape_set (in_timer_tape_set ct) := inl_ok tt_ok h 60 fn_timer_tape_set rfl nt_timer_tape_set rfl cal_timer_tape_set (by kernel_rfl)
@[match_pattern] abbrev f_timer_tape_link : Nat := 69
theorem fn_timer_tape_link : Try.prog.funcs[f_timer_tape_link]? = some Try.f69 := Try.func69
abbrev n_timer_tape_link : Nat := 22
theorem nt_timer_tape_link : Try.f69.ntmps = n_timer_tape_link := Try.ntmps69
abbrev k_timer_tape_link : List Nat := [0, 1, 2, 3, 4, 6, 10, 12]
abbrev rs_timer_tape_link : List ResultVar := [.cell 10 26]
theorem cal_timer_tape_link : Sx.Callee Try.prog f_timer_tape_link := ⟨_, Try.func69, by kernel_rfl, by kernel_rfl⟩
noncomputable abbrev in_timer_tape_link (ct : CT) : Ent := .st (inlS tt ct n_timer_tape_link k_timer_tape_link rs_timer_tape_link 60 (Try.f69.body.getD .skip))
theorem in_timer_tape_link_ok {ct : CT} (h : CTok Try.prog ct) : EntOk Try.prog f_timer_tape_link (in_timer_tape_link ct) := inl_ok tt_ok h 60 fn_timer_tape_link rfl nt_timer_tape_link rfl cal_timer_tape_link (by kernel_rfl)
@[match_pattern] abbrev f_timer_tape_sleep : Nat := 70
theorem fn_timer_tape_sleep : Try.prog.funcs[f_timer_tape_sleep]? = some Try.f70 := Try.func70
abbrev n_timer_tape_sleep : Nat := 32
theorem nt_timer_tape_sleep : Try.f70.ntmps = n_timer_tape_sleep := Try.ntmps70
abbrev k_timer_tape_sleep : List Nat := [0, 1, 2, 3, 5, 8, 13]
abbrev rs_timer_tape_sleep : List ResultVar := [.cell 8 26]
theorem cal_timer_tape_sleep : Sx.Callee Try.prog f_timer_tape_sleep := ⟨_, Try.func70, by kernel_rfl, by kernel_rfl⟩
noncomputable abbrev in_timer_tape_sleep (ct : CT) : Ent := .st (inlS tt ct n_timer_tape_sleep k_timer_tape_sleep rs_timer_tape_sleep 60 (Try.f70.body.getD .skip))
theorem in_timer_tape_sleep_ok {ct : CT} (h : CTok Try.prog ct) : EntOk Try.prog f_timer_tape_sleep (in_timer_tape_sleep ct) := inl_ok tt_ok h 60 fn_timer_tape_sleep rfl nt_timer_tape_sleep rfl cal_timer_tape_sleep (by kernel_rfl)
@[match_pattern] abbrev f_timer_tape_enbt : Nat := 71
theorem fn_timer_tape_enbt : Try.prog.funcs[f_timer_tape_enbt]? = some Try.f71 := Try.func71
abbrev n_timer_tape_enbt : Nat := 49
theorem nt_timer_tape_enbt : Try.f71.ntmps = n_timer_tape_enbt := Try.ntmps71
abbrev k_timer_tape_enbt : List Nat := [0, 1, 3, 4, 5, 10, 14, 27]
abbrev rs_timer_tape_enbt : List ResultVar := [.cell 4 26]
theorem cal_timer_tape_enbt : Sx.Callee Try.prog f_timer_tape_enbt := ⟨_, Try.func71, by kernel_rfl, by kernel_rfl⟩
noncomputable abbrev in_timer_tape_enbt (ct : CT) : Ent := .st (inlS tt ct n_timer_tape_enbt k_timer_tape_enbt rs_timer_tape_enbt 60 (Try.f71.body.getD .skip))
theorem in_timer_tape_enbt_ok {ct : CT} (h : CTok Try.prog ct) : EntOk Try.prog f_timer_tape_enbt (in_timer_tape_enbt ct) := inl_ok tt_ok h 60 fn_timer_tape_enbt rfl nt_timer_tape_enbt rfl cal_timer_tape_enbt (by kernel_rfl)
@[match_pattern] abbrev f_timer_tape_taltwt : Nat := 72
theorem fn_timer_tape_taltwt : Try.prog.funcs[f_timer_tape_taltwt]? = some Try.f72 := Try.func72
abbrev n_timer_tape_taltwt : Nat := 48
theorem nt_timer_tape_taltwt : Try.f72.ntmps = n_timer_tape_taltwt := Try.ntmps72
abbrev k_timer_tape_taltwt : List Nat := [0, 1, 2, 4, 6, 7, 8, 9, 33]
abbrev rs_timer_tape_taltwt : List ResultVar := [.cell 6 26]
theorem cal_timer_tape_taltwt : Sx.Callee Try.prog f_timer_tape_taltwt := ⟨_, Try.func72, by kernel_rfl, by kernel_rfl⟩
noncomputable abbrev in_timer_tape_taltwt (ct : CT) : Ent := .st (inlS tt ct n_timer_tape_taltwt k_timer_tape_taltwt rs_timer_tape_taltwt 60 (Try.f72.body.getD .skip))
theorem in_timer_tape_taltwt_ok {ct : CT} (h : CTok Try.prog ct) : EntOk Try.prog f_timer_tape_taltwt (in_timer_tape_taltwt ct) := inl_ok tt_ok h 60 fn_timer_tape_taltwt rfl nt_timer_tape_taltwt rfl cal_timer_tape_taltwt (by kernel_rfl)
@[match_pattern] abbrev f_timer_tape_dist : Nat := 73
theorem fn_timer_tape_dist : Try.prog.funcs[f_timer_tape_dist]? = some Try.f73 := Try.func73
abbrev n_timer_tape_dist : Nat := 58
theorem nt_timer_tape_dist : Try.f73.ntmps = n_timer_tape_dist := Try.ntmps73
abbrev k_timer_tape_dist : List Nat := [0, 1, 3, 4, 5, 6, 7, 25, 33, 47]
abbrev rs_timer_tape_dist : List ResultVar := [.cell 4 26]
theorem cal_timer_tape_dist : Sx.Callee Try.prog f_timer_tape_dist := ⟨_, Try.func73, by kernel_rfl, by kernel_rfl⟩
noncomputable abbrev in_timer_tape_dist (ct : CT) : Ent := .st (inlS tt ct n_timer_tape_dist k_timer_tape_dist rs_timer_tape_dist 60 (Try.f73.body.getD .skip))
theorem in_timer_tape_dist_ok {ct : CT} (h : CTok Try.prog ct) : EntOk Try.prog f_timer_tape_dist (in_timer_tape_dist ct) := inl_ok tt_ok h 60 fn_timer_tape_dist rfl nt_timer_tape_dist rfl cal_timer_tape_dist (by kernel_rfl)
@[match_pattern] abbrev f_r29_Valid : Nat := 74
theorem fn_r29_Valid : Try.prog.funcs[f_r29_Valid]? = some Try.f74 := Try.func74
abbrev n_r29_Valid : Nat := 19
theorem nt_r29_Valid : Try.f74.ntmps = n_r29_Valid := Try.ntmps74
abbrev k_r29_Valid : List Nat := [0, 1, 4]
abbrev rs_r29_Valid : List ResultVar := [.tmp 4]
theorem cal_r29_Valid : Sx.Callee Try.prog f_r29_Valid := ⟨_, Try.func74, by kernel_rfl, by kernel_rfl⟩
noncomputable abbrev in_r29_Valid (ct : CT) : Ent := .st (inlS tt ct n_r29_Valid k_r29_Valid rs_r29_Valid 60 (Try.f74.body.getD .skip))
theorem in_r29_Valid_ok {ct : CT} (h : CTok Try.prog ct) : EntOk Try.prog f_r29_Valid (in_r29_Valid ct) := inl_ok tt_ok h 60 fn_r29_Valid rfl nt_r29_Valid rfl cal_r29_Valid (by kernel_rfl)
@[match_pattern] abbrev f_r32_walk : Nat := 75
theorem fn_r32_walk : Try.prog.funcs[f_r32_walk]? = some Try.f75 := Try.func75
abbrev n_r32_walk : Nat := 34
theorem nt_r32_walk : Try.f75.ntmps = n_r32_walk := Try.ntmps75
abbrev k_r32_walk : List Nat := [0, 1, 2, 3, 6, 7, 8, 9, 15, 27]
abbrev rs_r32_walk : List ResultVar := [.tmp 6, .tmp 7]
theorem cal_r32_walk : Sx.Callee Try.prog f_r32_walk := ⟨_, Try.func75, by kernel_rfl, by kernel_rfl⟩
noncomputable abbrev in_r32_walk (ct : CT) : Ent := .st (inlS tt ct n_r32_walk k_r32_walk rs_r32_walk 60 (Try.f75.body.getD .skip))
theorem in_r32_walk_ok {ct : CT} (h : CTok Try.prog ct) : EntOk Try.prog f_r32_walk (in_r32_walk ct) := inl_ok tt_ok h 60 fn_r32_walk rfl nt_r32_walk rfl cal_r32_walk (by kernel_rfl)
@[match_pattern] abbrev f_r32_After : Nat := 76
theorem fn_r32_After : Try.prog.funcs[f_r32_After]? = some Try.f76 := Try.func76
abbrev n_r32_After : Nat := 9
theorem nt_r32_After : Try.f76.ntmps = n_r32_After := Try.ntmps76
abbrev k_r32_After : List Nat := [0, 1, 4]
abbrev rs_r32_After : List ResultVar := [.tmp 4]
theorem cal_r32_After : Sx.Callee Try.prog f_r32_After := ⟨_, Try.func76, by kernel_rfl, by kernel_rfl⟩
noncomputable abbrev in_r32_After (ct : CT) : Ent := .st (inlS tt ct n_r32_After k_r32_After rs_r32_After 60 (Try.f76.body.getD .skip))
theorem in_r32_After_ok {ct : CT} (h : CTok Try.prog ct) : EntOk Try.prog f_r32_After (in_r32_After ct) := inl_ok tt_ok h 60 fn_r32_After rfl nt_r32_After rfl cal_r32_After (by kernel_rfl)
@[match_pattern] abbrev f_r29_Word : Nat := 77
theorem fn_r29_Word : Try.prog.funcs[f_r29_Word]? = some Try.f77 := Try.func77
abbrev n_r29_Word : Nat := 19
theorem nt_r29_Word : Try.f77.ntmps = n_r29_Word := Try.ntmps77
abbrev k_r29_Word : List Nat := [0, 1, 2, 6, 7]
abbrev rs_r29_Word : List ResultVar := [.tmp 6]
theorem cal_r29_Word : Sx.Callee Try.prog f_r29_Word := ⟨_, Try.func77, by kernel_rfl, by kernel_rfl⟩
noncomputable abbrev in_r29_Word (ct : CT) : Ent := .st (inlS tt ct n_r29_Word k_r29_Word rs_r29_Word 60 (Try.f77.body.getD .skip))
theorem in_r29_Word_ok {ct : CT} (h : CTok Try.prog ct) : EntOk Try.prog f_r29_Word (in_r29_Word ct) := inl_ok tt_ok h 60 fn_r29_Word rfl nt_r29_Word rfl cal_r29_Word (by kernel_rfl)
@[match_pattern] abbrev f_r29_Set : Nat := 78
theorem fn_r29_Set : Try.prog.funcs[f_r29_Set]? = some Try.f78 := Try.func78
abbrev n_r29_Set : Nat := 22
theorem nt_r29_Set : Try.f78.ntmps = n_r29_Set := Try.ntmps78
abbrev k_r29_Set : List Nat := [0, 1, 2, 3, 8, 9]
abbrev rs_r29_Set : List ResultVar := [.tmp 8]
theorem cal_r29_Set : Sx.Callee Try.prog f_r29_Set := ⟨_, Try.func78, by kernel_rfl, by kernel_rfl⟩
noncomputable abbrev in_r29_Set (ct : CT) : Ent := .st (inlS tt ct n_r29_Set k_r29_Set rs_r29_Set 60 (Try.f78.body.getD .skip))
theorem in_r29_Set_ok {ct : CT} (h : CTok Try.prog ct) : EntOk Try.prog f_r29_Set (in_r29_Set ct) := inl_ok tt_ok h 60 fn_r29_Set rfl nt_r29_Set rfl cal_r29_Set (by kernel_rfl)
@[match_pattern] abbrev f_r32_link : Nat := 79
theorem fn_r32_link : Try.prog.funcs[f_r32_link]? = some Try.f79 := Try.func79
abbrev n_r32_link : Nat := 31
theorem nt_r32_link : Try.f79.ntmps = n_r32_link := Try.ntmps79
abbrev k_r32_link : List Nat := [0, 1, 2, 3, 4, 5, 6, 12, 13, 15]
abbrev rs_r32_link : List ResultVar := [.cell 12 26, .tmp 13]
theorem cal_r32_link : Sx.Callee Try.prog f_r32_link := ⟨_, Try.func79, by kernel_rfl, by kernel_rfl⟩
noncomputable abbrev in_r32_link (ct : CT) : Ent := .st (inlS tt ct n_r32_link k_r32_link rs_r32_link 60 (Try.f79.body.getD .skip))
theorem in_r32_link_ok {ct : CT} (h : CTok Try.prog ct) : EntOk Try.prog f_r32_link (in_r32_link ct) := inl_ok tt_ok h 60 fn_r32_link rfl nt_r32_link rfl cal_r32_link (by kernel_rfl)
@[match_pattern] abbrev f_r32_due : Nat := 80
theorem fn_r32_due : Try.prog.funcs[f_r32_due]? = some Try.f80 := Try.func80
abbrev n_r32_due : Nat := 29
theorem nt_r32_due : Try.f80.ntmps = n_r32_due := Try.ntmps80
abbrev k_r32_due : List Nat := [0, 1, 2, 3, 6, 7, 13]
abbrev rs_r32_due : List ResultVar := [.tmp 6]
theorem cal_r32_due : Sx.Callee Try.prog f_r32_due := ⟨_, Try.func80, by kernel_rfl, by kernel_rfl⟩
noncomputable abbrev in_r32_due (ct : CT) : Ent := .st (inlS tt ct n_r32_due k_r32_due rs_r32_due 60 (Try.f80.body.getD .skip))
theorem in_r32_due_ok {ct : CT} (h : CTok Try.prog ct) : EntOk Try.prog f_r32_due (in_r32_due ct) := inl_ok tt_ok h 60 fn_r32_due rfl nt_r32_due rfl cal_r32_due (by kernel_rfl)
@[match_pattern] abbrev f_r32_wake : Nat := 81
theorem fn_r32_wake : Try.prog.funcs[f_r32_wake]? = some Try.f81 := Try.func81
abbrev n_r32_wake : Nat := 55
theorem nt_r32_wake : Try.f81.ntmps = n_r32_wake := Try.ntmps81
abbrev k_r32_wake : List Nat := [0, 1, 2, 3, 6, 7, 8, 9, 17, 39]
abbrev rs_r32_wake : List ResultVar := [.cell 6 26, .tmp 7, .tmp 8]
theorem cal_r32_wake : Sx.Callee Try.prog f_r32_wake := ⟨_, Try.func81, by kernel_rfl, by kernel_rfl⟩
noncomputable abbrev in_r32_wake (ct : CT) : Ent := .st (inlS tt ct n_r32_wake k_r32_wake rs_r32_wake 60 (Try.f81.body.getD .skip))
theorem in_r32_wake_ok {ct : CT} (h : CTok Try.prog ct) : EntOk Try.prog f_r32_wake (in_r32_wake ct) := inl_ok tt_ok h 60 fn_r32_wake rfl nt_r32_wake rfl cal_r32_wake (by kernel_rfl)
@[match_pattern] abbrev f_r32_sleep : Nat := 82
theorem fn_r32_sleep : Try.prog.funcs[f_r32_sleep]? = some Try.f82 := Try.func82
abbrev n_r32_sleep : Nat := 45
theorem nt_r32_sleep : Try.f82.ntmps = n_r32_sleep := Try.ntmps82
abbrev k_r32_sleep : List Nat := [0, 1, 2, 3, 4, 8, 9, 10, 11, 12, 13, 14, 19, 33]
abbrev rs_r32_sleep : List ResultVar := [.cell 8 26, .tmp 9, .tmp 10]
theorem cal_r32_sleep : Sx.Callee Try.prog f_r32_sleep := ⟨_, Try.func82, by kernel_rfl, by kernel_rfl⟩
noncomputable abbrev in_r32_sleep (ct : CT) : Ent := .st (inlS tt ct n_r32_sleep k_r32_sleep rs_r32_sleep 60 (Try.f82.body.getD .skip))
theorem in_r32_sleep_ok {ct : CT} (h : CTok Try.prog ct) : EntOk Try.prog f_r32_sleep (in_r32_sleep ct) := inl_ok tt_ok h 60 fn_r32_sleep rfl nt_r32_sleep rfl cal_r32_sleep (by kernel_rfl)
@[match_pattern] abbrev f_r32_enbt : Nat := 83
theorem fn_r32_enbt : Try.prog.funcs[f_r32_enbt]? = some Try.f83 := Try.func83
abbrev n_r32_enbt : Nat := 56
theorem nt_r32_enbt : Try.f83.ntmps = n_r32_enbt := Try.ntmps83
abbrev k_r32_enbt : List Nat := [0, 1, 2, 4, 5, 6, 7, 18, 44]
abbrev rs_r32_enbt : List ResultVar := [.cell 4 26, .tmp 5, .tmp 6]
theorem cal_r32_enbt : Sx.Callee Try.prog f_r32_enbt := ⟨_, Try.func83, by kernel_rfl, by kernel_rfl⟩
noncomputable abbrev in_r32_enbt (ct : CT) : Ent := .st (inlS tt ct n_r32_enbt k_r32_enbt rs_r32_enbt 60 (Try.f83.body.getD .skip))
theorem in_r32_enbt_ok {ct : CT} (h : CTok Try.prog ct) : EntOk Try.prog f_r32_enbt (in_r32_enbt ct) := inl_ok tt_ok h 60 fn_r32_enbt rfl nt_r32_enbt rfl cal_r32_enbt (by kernel_rfl)
@[match_pattern] abbrev f_r32_taltwt : Nat := 84
theorem fn_r32_taltwt : Try.prog.funcs[f_r32_taltwt]? = some Try.f84 := Try.func84
abbrev n_r32_taltwt : Nat := 71
theorem nt_r32_taltwt : Try.f84.ntmps = n_r32_taltwt := Try.ntmps84
abbrev k_r32_taltwt : List Nat := [0, 1, 2, 4, 5, 6, 7, 8, 9, 10, 11, 12, 13, 14, 15, 45, 65]
abbrev rs_r32_taltwt : List ResultVar := [.cell 4 26, .tmp 5, .tmp 6]
theorem cal_r32_taltwt : Sx.Callee Try.prog f_r32_taltwt := ⟨_, Try.func84, by kernel_rfl, by kernel_rfl⟩
noncomputable abbrev in_r32_taltwt (ct : CT) : Ent := .st (inlS tt ct n_r32_taltwt k_r32_taltwt rs_r32_taltwt 60 (Try.f84.body.getD .skip))
theorem in_r32_taltwt_ok {ct : CT} (h : CTok Try.prog ct) : EntOk Try.prog f_r32_taltwt (in_r32_taltwt ct) := inl_ok tt_ok h 60 fn_r32_taltwt rfl nt_r32_taltwt rfl cal_r32_taltwt (by kernel_rfl)
@[match_pattern] abbrev f_r32_dist : Nat := 85
theorem fn_r32_dist : Try.prog.funcs[f_r32_dist]? = some Try.f85 := Try.func85
abbrev n_r32_dist : Nat := 79
theorem nt_r32_dist : Try.f85.ntmps = n_r32_dist := Try.ntmps85
abbrev k_r32_dist : List Nat := [0, 1, 2, 4, 5, 6, 7, 8, 9, 10, 11, 12, 13, 26, 38, 50, 62, 67]
abbrev rs_r32_dist : List ResultVar := [.cell 4 26, .tmp 5, .tmp 6]
theorem cal_r32_dist : Sx.Callee Try.prog f_r32_dist := ⟨_, Try.func85, by kernel_rfl, by kernel_rfl⟩
noncomputable abbrev in_r32_dist (ct : CT) : Ent := .st (inlS tt ct n_r32_dist k_r32_dist rs_r32_dist 60 (Try.f85.body.getD .skip))
theorem in_r32_dist_ok {ct : CT} (h : CTok Try.prog ct) : EntOk Try.prog f_r32_dist (in_r32_dist ct) := inl_ok tt_ok h 60 fn_r32_dist rfl nt_r32_dist rfl cal_r32_dist (by kernel_rfl)
@[match_pattern] abbrev f_r03_Lies : Nat := 86
theorem fn_r03_Lies : Try.prog.funcs[f_r03_Lies]? = some Try.f86 := Try.func86
abbrev n_r03_Lies : Nat := 24
theorem nt_r03_Lies : Try.f86.ntmps = n_r03_Lies := Try.ntmps86
abbrev k_r03_Lies : List Nat := [0, 1, 2, 6, 7]
abbrev rs_r03_Lies : List ResultVar := [.tmp 6]
theorem cal_r03_Lies : Sx.Callee Try.prog f_r03_Lies := ⟨_, Try.func86, by kernel_rfl, by kernel_rfl⟩
noncomputable abbrev in_r03_Lies (ct : CT) : Ent := .st (inlS tt ct n_r03_Lies k_r03_Lies rs_r03_Lies 60 (Try.f86.body.getD .skip))
theorem in_r03_Lies_ok {ct : CT} (h : CTok Try.prog ct) : EntOk Try.prog f_r03_Lies (in_r03_Lies ct) := inl_ok tt_ok h 60 fn_r03_Lies rfl nt_r03_Lies rfl cal_r03_Lies (by kernel_rfl)
@[match_pattern] abbrev f_r03_Index : Nat := 87
theorem fn_r03_Index : Try.prog.funcs[f_r03_Index]? = some Try.f87 := Try.func87
abbrev n_r03_Index : Nat := 6
theorem nt_r03_Index : Try.f87.ntmps = n_r03_Index := Try.ntmps87
abbrev k_r03_Index : List Nat := [0, 2]
abbrev rs_r03_Index : List ResultVar := [.tmp 2]
theorem cal_r03_Index : Sx.Callee Try.prog f_r03_Index := ⟨_, Try.func87, by kernel_rfl, by kernel_rfl⟩
noncomputable abbrev in_r03_Index (ct : CT) : Ent := .st (inlS tt ct n_r03_Index k_r03_Index rs_r03_Index 60 (Try.f87.body.getD .skip))
theorem in_r03_Index_ok {ct : CT} (h : CTok Try.prog ct) : EntOk Try.prog f_r03_Index (in_r03_Index ct) := inl_ok tt_ok h 60 fn_r03_Index rfl nt_r03_Index rfl cal_r03_Index (by kernel_rfl)
@[match_pattern] abbrev f_r03_put : Nat := 88
theorem fn_r03_put : Try.prog.funcs[f_r03_put]? = some Try.f88 := Try.func88
abbrev n_r03_put : Nat := 24
theorem nt_r03_put : Try.f88.ntmps = n_r03_put := Try.ntmps88
abbrev k_r03_put : List Nat := [0, 1, 2, 6, 7]
abbrev rs_r03_put : List ResultVar := [.tmp 6]
theorem cal_r03_put : Sx.Callee Try.prog f_r03_put := ⟨_, Try.func88, by kernel_rfl, by kernel_rfl⟩
noncomputable abbrev in_r03_put (ct : CT) : Ent := .st (inlS tt ct n_r03_put k_r03_put rs_r03_put 60 (Try.f88.body.getD .skip))
theorem in_r03_put_ok {ct : CT} (h : CTok Try.prog ct) : EntOk Try.prog f_r03_put (in_r03_put ct) := inl_ok tt_ok h 60 fn_r03_put rfl nt_r03_put rfl cal_r03_put (by kernel_rfl)
@[match_pattern] abbrev f_r03_Four : Nat := 89
theorem fn_r03_Four : Try.prog.funcs[f_r03_Four]? = some Try.f89 := Try.func89
abbrev n_r03_Four : Nat := 18
theorem nt_r03_Four : Try.f89.ntmps = n_r03_Four := Try.ntmps89
abbrev k_r03_Four : List Nat := [0, 2, 3]
abbrev rs_r03_Four : List ResultVar := [.tmp 2]
theorem cal_r03_Four : Sx.Callee Try.prog f_r03_Four := ⟨_, Try.func89, by kernel_rfl, by kernel_rfl⟩
noncomputable abbrev in_r03_Four (ct : CT) : Ent := .st (inlS tt ct n_r03_Four k_r03_Four rs_r03_Four 60 (Try.f89.body.getD .skip))
theorem in_r03_Four_ok {ct : CT} (h : CTok Try.prog ct) : EntOk Try.prog f_r03_Four (in_r03_Four ct) := inl_ok tt_ok h 60 fn_r03_Four rfl nt_r03_Four rfl cal_r03_Four (by kernel_rfl)
@[match_pattern] abbrev f_mem_Mem_none : Nat := 90
theorem fn_mem_Mem_none : Try.prog.funcs[f_mem_Mem_none]? = some Try.f90 := Try.func90
abbrev n_mem_Mem_none : Nat := 13
theorem nt_mem_Mem_none : Try.f90.ntmps = n_mem_Mem_none := Try.ntmps90
abbrev k_mem_Mem_none : List Nat := [0, 2]
abbrev rs_mem_Mem_none : List ResultVar := [.tmp 2]
theorem cal_mem_Mem_none : Sx.Callee Try.prog f_mem_Mem_none := ⟨_, Try.func90, by kernel_rfl, by kernel_rfl⟩
noncomputable abbrev in_mem_Mem_none (ct : CT) : Ent := .st (inlS tt ct n_mem_Mem_none k_mem_Mem_none rs_mem_Mem_none 60 (Try.f90.body.getD .skip))
theorem in_mem_Mem_none_ok {ct : CT} (h : CTok Try.prog ct) : EntOk Try.prog f_mem_Mem_none (in_mem_Mem_none ct) := inl_ok tt_ok h 60 fn_mem_Mem_none rfl nt_mem_Mem_none rfl cal_mem_Mem_none (by kernel_rfl)
@[match_pattern] abbrev f_sched_chain_1 : Nat := 91
theorem fn_sched_chain_1 : Try.prog.funcs[f_sched_chain_1]? = some Try.f91 := Try.func91
abbrev n_sched_chain_1 : Nat := 39
theorem nt_sched_chain_1 : Try.f91.ntmps = n_sched_chain_1 := Try.ntmps91
abbrev k_sched_chain_1 : List Nat := [0, 1, 2, 3, 5, 6, 11, 38]
abbrev rs_sched_chain_1 : List ResultVar := []
theorem cal_sched_chain_1 : Sx.Callee Try.prog f_sched_chain_1 := ⟨_, Try.func91, by kernel_rfl, by kernel_rfl⟩
noncomputable abbrev in_sched_chain_1 (ct : CT) : Ent := .st (inlS tt ct n_sched_chain_1 k_sched_chain_1 rs_sched_chain_1 60 (Try.f91.body.getD .skip))
theorem in_sched_chain_1_ok {ct : CT} (h : CTok Try.prog ct) : EntOk Try.prog f_sched_chain_1 (in_sched_chain_1 ct) := inl_ok tt_ok h 60 fn_sched_chain_1 rfl nt_sched_chain_1 rfl cal_sched_chain_1 (by kernel_rfl)
@[match_pattern] abbrev f_sched_word : Nat := 92
theorem fn_sched_word : Try.prog.funcs[f_sched_word]? = some Try.f92 := Try.func92
abbrev n_sched_word : Nat := 19
theorem nt_sched_word : Try.f92.ntmps = n_sched_word := Try.ntmps92
abbrev k_sched_word : List Nat := [0, 1, 2, 6, 7]
abbrev rs_sched_word : List ResultVar := [.tmp 6]
theorem cal_sched_word : Sx.Callee Try.prog f_sched_word := ⟨_, Try.func92, by kernel_rfl, by kernel_rfl⟩
noncomputable abbrev in_sched_word (ct : CT) : Ent := .st (inlS tt ct n_sched_word k_sched_word rs_sched_word 60 (Try.f92.body.getD .skip))
theorem in_sched_word_ok {ct : CT} (h : CTok Try.prog ct) : EntOk Try.prog f_sched_word (in_sched_word ct) := inl_ok tt_ok h 60 fn_sched_word rfl nt_sched_word rfl cal_sched_word (by kernel_rfl)
@[match_pattern] abbrev f_mem_Mem_span : Nat := 93
theorem fn_mem_Mem_span : Try.prog.funcs[f_mem_Mem_span]? = some Try.f93 := Try.func93
abbrev n_mem_Mem_span : Nat := 44
theorem nt_mem_Mem_span : Try.f93.ntmps = n_mem_Mem_span := Try.ntmps93
abbrev k_mem_Mem_span : List Nat := [0, 1, 2, 6, 7, 8, 10, 31]
abbrev rs_mem_Mem_span : List ResultVar := [.tmp 6, .tmp 7]
theorem cal_mem_Mem_span : Sx.Callee Try.prog f_mem_Mem_span := ⟨_, Try.func93, by kernel_rfl, by kernel_rfl⟩
noncomputable abbrev in_mem_Mem_span (ct : CT) : Ent := .st (inlS tt ct n_mem_Mem_span k_mem_Mem_span rs_mem_Mem_span 60 (Try.f93.body.getD .skip))
theorem in_mem_Mem_span_ok {ct : CT} (h : CTok Try.prog ct) : EntOk Try.prog f_mem_Mem_span (in_mem_Mem_span ct) := inl_ok tt_ok h 60 fn_mem_Mem_span rfl nt_mem_Mem_span rfl cal_mem_Mem_span (by kernel_rfl)
@[match_pattern] abbrev f_sched_Take : Nat := 94
theorem fn_sched_Take : Try.prog.funcs[f_sched_Take]? = some Try.f94 := Try.func94
abbrev n_sched_Take : Nat := 58
theorem nt_sched_Take : Try.f94.ntmps = n_sched_Take := Try.ntmps94
abbrev k_sched_Take : List Nat := [0, 1, 2, 3, 6, 7, 8, 9, 13, 18, 25, 43]
abbrev rs_sched_Take : List ResultVar := [.cell 6 26, .tmp 7, .tmp 8]
theorem cal_sched_Take : Sx.Callee Try.prog f_sched_Take := ⟨_, Try.func94, by kernel_rfl, by kernel_rfl⟩
noncomputable abbrev in_sched_Take (ct : CT) : Ent := .st (inlS tt ct n_sched_Take k_sched_Take rs_sched_Take 60 (Try.f94.body.getD .skip))
theorem in_sched_Take_ok {ct : CT} (h : CTok Try.prog ct) : EntOk Try.prog f_sched_Take (in_sched_Take ct) := inl_ok tt_ok h 60 fn_sched_Take rfl nt_sched_Take rfl cal_sched_Take (by kernel_rfl)
@[match_pattern] abbrev f_sched_Wait : Nat := 95
theorem fn_sched_Wait : Try.prog.funcs[f_sched_Wait]? = some Try.f95 := Try.func95
abbrev n_sched_Wait : Nat := 31
theorem nt_sched_Wait : Try.f95.ntmps = n_sched_Wait := Try.ntmps95
abbrev k_sched_Wait : List Nat := [0, 1, 2, 4, 5, 6, 10, 15]
abbrev rs_sched_Wait : List ResultVar := [.cell 4 26, .tmp 5]
theorem cal_sched_Wait : Sx.Callee Try.prog f_sched_Wait := ⟨_, Try.func95, by kernel_rfl, by kernel_rfl⟩
noncomputable abbrev in_sched_Wait (ct : CT) : Ent := .st (inlS tt ct n_sched_Wait k_sched_Wait rs_sched_Wait 60 (Try.f95.body.getD .skip))
theorem in_sched_Wait_ok {ct : CT} (h : CTok Try.prog ct) : EntOk Try.prog f_sched_Wait (in_sched_Wait ct) := inl_ok tt_ok h 60 fn_sched_Wait rfl nt_sched_Wait rfl cal_sched_Wait (by kernel_rfl)
@[match_pattern] abbrev f_r03_Word : Nat := 96
theorem fn_r03_Word : Try.prog.funcs[f_r03_Word]? = some Try.f96 := Try.func96
abbrev n_r03_Word : Nat := 50
theorem nt_r03_Word : Try.f96.ntmps = n_r03_Word := Try.ntmps96
abbrev k_r03_Word : List Nat := [0, 1, 4, 5, 6, 7, 12]
abbrev rs_r03_Word : List ResultVar := [.tmp 4, .tmp 5]
theorem cal_r03_Word : Sx.Callee Try.prog f_r03_Word := ⟨_, Try.func96, by kernel_rfl, by kernel_rfl⟩
noncomputable abbrev in_r03_Word (ct : CT) : Ent := .st (inlS tt ct n_r03_Word k_r03_Word rs_r03_Word 60 (Try.f96.body.getD .skip))
theorem in_r03_Word_ok {ct : CT} (h : CTok Try.prog ct) : EntOk Try.prog f_r03_Word (in_r03_Word ct) := inl_ok tt_ok h 60 fn_r03_Word rfl nt_r03_Word rfl cal_r03_Word (by kernel_rfl)
@[match_pattern] abbrev f_r29_Append : Nat := 97
theorem fn_r29_Append : Try.prog.funcs[f_r29_Append]? = some Try.f97 := Try.func97
abbrev n_r29_Append : Nat := 52
theorem nt_r29_Append : Try.f97.ntmps = n_r29_Append := Try.ntmps97
abbrev k_r29_Append : List Nat := [0, 1, 2, 3, 6, 7, 8, 9, 10, 19, 26, 36]
abbrev rs_r29_Append : List ResultVar := [.cell 6 26, .tmp 7, .tmp 8]
theorem cal_r29_Append : Sx.Callee Try.prog f_r29_Append := ⟨_, Try.func97, by kernel_rfl, by kernel_rfl⟩
noncomputable abbrev in_r29_Append (ct : CT) : Ent := .st (inlS tt ct n_r29_Append k_r29_Append rs_r29_Append 60 (Try.f97.body.getD .skip))
theorem in_r29_Append_ok {ct : CT} (h : CTok Try.prog ct) : EntOk Try.prog f_r29_Append (in_r29_Append ct) := inl_ok tt_ok h 60 fn_r29_Append rfl nt_r29_Append rfl cal_r29_Append (by kernel_rfl)
@[match_pattern] abbrev f_r29_Wait : Nat := 98
theorem fn_r29_Wait : Try.prog.funcs[f_r29_Wait]? = some Try.f98 := Try.func98
abbrev n_r29_Wait : Nat := 27
theorem nt_r29_Wait : Try.f98.ntmps = n_r29_Wait := Try.ntmps98
abbrev k_r29_Wait : List Nat := [0, 1, 2, 4, 5, 6, 9, 16]
abbrev rs_r29_Wait : List ResultVar := [.cell 4 26, .tmp 5, .tmp 6]
theorem cal_r29_Wait : Sx.Callee Try.prog f_r29_Wait := ⟨_, Try.func98, by kernel_rfl, by kernel_rfl⟩
noncomputable abbrev in_r29_Wait (ct : CT) : Ent := .st (inlS tt ct n_r29_Wait k_r29_Wait rs_r29_Wait 60 (Try.f98.body.getD .skip))
theorem in_r29_Wait_ok {ct : CT} (h : CTok Try.prog ct) : EntOk Try.prog f_r29_Wait (in_r29_Wait ct) := inl_ok tt_ok h 60 fn_r29_Wait rfl nt_r29_Wait rfl cal_r29_Wait (by kernel_rfl)
@[match_pattern] abbrev f_r29_Space : Nat := 99
theorem fn_r29_Space : Try.prog.funcs[f_r29_Space]? = some Try.f99 := Try.func99
abbrev n_r29_Space : Nat := 9
theorem nt_r29_Space : Try.f99.ntmps = n_r29_Space := Try.ntmps99
abbrev k_r29_Space : List Nat := [0, 2, 3]
abbrev rs_r29_Space : List ResultVar := [.tmp 2, .tmp 3]
theorem cal_r29_Space : Sx.Callee Try.prog f_r29_Space := ⟨_, Try.func99, by kernel_rfl, by kernel_rfl⟩
noncomputable abbrev in_r29_Space (ct : CT) : Ent := .st (inlS tt ct n_r29_Space k_r29_Space rs_r29_Space 60 (Try.f99.body.getD .skip))
theorem in_r29_Space_ok {ct : CT} (h : CTok Try.prog ct) : EntOk Try.prog f_r29_Space (in_r29_Space ct) := inl_ok tt_ok h 60 fn_r29_Space rfl nt_r29_Space rfl cal_r29_Space (by kernel_rfl)
end Go.Proofs
