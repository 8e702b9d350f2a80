/- Types, slots and numbers of this seat's functions (printed by a program). -/
import Derived.Test.YtbdcobclpfcdhaaSxC
import Derived.Test.YtbdcobclpfcdhaaProg

namespace Go.Proofs
open Go Go.Sx
def ti2 : TI := { size := 1, zv := .int .i64 0, agg := false, kd := .int .i64 }
theorem tok2 : TIok Try.prog 2 ti2 := ⟨by kernel_rfl, by kernel_rfl, by kernel_rfl, by kernel_rfl, fun _ h => by cases h⟩
def ti3 : TI := { size := 1, zv := .int .i64 0, agg := false, kd := .int .i64 }
theorem tok3 : TIok Try.prog 3 ti3 := ⟨by kernel_rfl, by kernel_rfl, by kernel_rfl, by kernel_rfl, fun _ h => by cases h⟩
def ti4 : TI := { size := 1, zv := .bool false, agg := false, kd := .bool }
theorem tok4 : TIok Try.prog 4 ti4 := ⟨by kernel_rfl, by kernel_rfl, by kernel_rfl, by kernel_rfl, fun _ h => by cases h⟩
def ti5 : TI := { size := 1, zv := .int .u8 0, agg := false, kd := .int .u8 }
theorem tok5 : TIok Try.prog 5 ti5 := ⟨by kernel_rfl, by kernel_rfl, by kernel_rfl, by kernel_rfl, fun _ h => by cases h⟩
def ti9 : TI := { size := 1, zv := .string ByteArray.empty, agg := false, kd := .str }
theorem tok9 : TIok Try.prog 9 ti9 := ⟨by kernel_rfl, by kernel_rfl, by kernel_rfl, by kernel_rfl, fun _ h => by cases h⟩
def ti21 : TI := { size := 1, zv := .int .i32 0, agg := false, kd := .int .i32 }
theorem tok21 : TIok Try.prog 21 ti21 := ⟨by kernel_rfl, by kernel_rfl, by kernel_rfl, by kernel_rfl, fun _ h => by cases h⟩
def ti22 : TI := { size := 1, zv := .slice none 0 0, agg := false, kd := .slice 21 1 4 }
theorem tok22 : TIok Try.prog 22 ti22 := ⟨by kernel_rfl, by kernel_rfl, by kernel_rfl, by kernel_rfl, fun _ h => by cases h⟩
def ti23 : TI := { size := 1, zv := .slice none 0 0, agg := false, kd := .slice 4 1 1 }
theorem tok23 : TIok Try.prog 23 ti23 := ⟨by kernel_rfl, by kernel_rfl, by kernel_rfl, by kernel_rfl, fun _ h => by cases h⟩
def ti24 : TI := { size := 1, zv := .pointer none, agg := false, kd := .ptr }
theorem tok24 : TIok Try.prog 24 ti24 := ⟨by kernel_rfl, by kernel_rfl, by kernel_rfl, by kernel_rfl, fun _ h => by cases h⟩
def ti26 : TI := { size := 2, zv := .agg #[.int .i32 0, .int .i32 0], agg := true, kd := .arr 2 1 false }
theorem tok26 : TIok Try.prog 26 ti26 := ⟨by kernel_rfl, by kernel_rfl, by kernel_rfl, by kernel_rfl, fun _ h => by cases h⟩
def ti28 : TI := { size := 8, zv := .agg #[.bool false, .int .i32 0, .int .i32 0, .int .i32 0, .int .i32 0, .int .i32 0, .bool false, .int .i32 0], agg := true, kd := .struct [(0, (1, false)), (1, (1, false)), (2, (1, false)), (3, (1, false)), (4, (1, false)), (5, (1, false)), (6, (1, false)), (7, (1, false))] }
theorem tok28 : TIok Try.prog 28 ti28 := ⟨by kernel_rfl, by kernel_rfl, by kernel_rfl, by kernel_rfl, fun _ h => by cases h⟩
def ti30 : TI := { size := 28, zv := .agg #[.int .i32 0, .int .i32 0, .int .i32 0, .int .i32 0, .int .i32 0, .int .i64 0, .bool false, .bool false, .bool false, .bool false, .int .i32 0, .int .i32 0, .int .i32 0, .int .i32 0, .int .i32 0, .int .i32 0, .int .i32 0, .int .i32 0, .int .i32 0, .int .i32 0, .bool false, .int .i32 0, .int .i32 0, .int .i32 0, .int .i32 0, .int .i32 0, .bool false, .int .i32 0], agg := true, kd := .struct [(0, (1, false)), (1, (1, false)), (2, (1, false)), (3, (1, false)), (4, (1, false)), (5, (1, false)), (6, (1, false)), (7, (1, false)), (8, (1, false)), (9, (1, false)), (10, (2, true)), (12, (2, true)), (14, (2, true)), (16, (2, true)), (18, (1, false)), (19, (1, false)), (20, (8, true))], flat := some [some .i32, some .i32, some .i32, some .i32, some .i32, some .i64, none, none, none, none, some .i32, some .i32, some .i32, some .i32, some .i32, some .i32, some .i32, some .i32, some .i32, some .i32, none, some .i32, some .i32, some .i32, some .i32, some .i32, none, some .i32] }
theorem tok30 : TIok Try.prog 30 ti30 := ⟨by kernel_rfl, by kernel_rfl, by kernel_rfl, by kernel_rfl, fun _ h => by cases h; exact flatEq_of (by kernel_rfl) (by kernel_rfl) (by kernel_rfl)⟩
def ti32 : TI := { size := 1, zv := .int .i64 0, agg := false, kd := .int .i64 }
theorem tok32 : TIok Try.prog 32 ti32 := ⟨by kernel_rfl, by kernel_rfl, by kernel_rfl, by kernel_rfl, fun _ h => by cases h⟩
def ti34 : TI := { size := 1, zv := .nilFunc, agg := false, kd := .fn }
theorem tok34 : TIok Try.prog 34 ti34 := ⟨by kernel_rfl, by kernel_rfl, by kernel_rfl, by kernel_rfl, fun _ h => by cases h⟩
def ti44 : TI := { size := 2, zv := .agg #[.int .u8 0, .int .i32 0], agg := true, kd := .struct [(0, (1, false)), (1, (1, false))] }
theorem tok44 : TIok Try.prog 44 ti44 := ⟨by kernel_rfl, by kernel_rfl, by kernel_rfl, by kernel_rfl, fun _ h => by cases h⟩
def ti46 : TI := { size := 1, zv := .slice none 0 0, agg := false, kd := .slice 5 1 1 }
theorem tok46 : TIok Try.prog 46 ti46 := ⟨by kernel_rfl, by kernel_rfl, by kernel_rfl, by kernel_rfl, fun _ h => by cases h⟩
def ti49 : TI := { size := 1, zv := .nilFunc, agg := false, kd := .fn }
theorem tok49 : TIok Try.prog 49 ti49 := ⟨by kernel_rfl, by kernel_rfl, by kernel_rfl, by kernel_rfl, fun _ h => by cases h⟩
def ti58 : TI := { size := 2, zv := .agg #[.int .i64 0, .int .i64 0], agg := true, kd := .arr 2 1 false }
theorem tok58 : TIok Try.prog 58 ti58 := ⟨by kernel_rfl, by kernel_rfl, by kernel_rfl, by kernel_rfl, fun _ h => by cases h⟩
def ti59 : TI := { size := 1, zv := .nilFunc, agg := false, kd := .fn }
theorem tok59 : TIok Try.prog 59 ti59 := ⟨by kernel_rfl, by kernel_rfl, by kernel_rfl, by kernel_rfl, fun _ h => by cases h⟩
def ti66 : TI := { size := 1, zv := .int .u32 0, agg := false, kd := .int .u32 }
theorem tok66 : TIok Try.prog 66 ti66 := ⟨by kernel_rfl, by kernel_rfl, by kernel_rfl, by kernel_rfl, fun _ h => by cases h⟩
def ti76 : TI := { size := 1, zv := .nilFunc, agg := false, kd := .fn }
theorem tok76 : TIok Try.prog 76 ti76 := ⟨by kernel_rfl, by kernel_rfl, by kernel_rfl, by kernel_rfl, fun _ h => by cases h⟩
def ti77 : TI := { size := 1, zv := .map none, agg := false, kd := .mapi .i32 (.nilFunc) }
theorem tok77 : TIok Try.prog 77 ti77 := ⟨by kernel_rfl, by kernel_rfl, by kernel_rfl, by kernel_rfl, fun _ h => by cases h⟩
def ti79 : TI := { size := 29, zv := .agg #[.int .i32 0, .int .i32 0, .int .i32 0, .int .i32 0, .int .i32 0, .int .i64 0, .bool false, .bool false, .bool false, .bool false, .int .i32 0, .int .i32 0, .int .i32 0, .int .i32 0, .int .i32 0, .int .i32 0, .int .i32 0, .int .i32 0, .int .i32 0, .int .i32 0, .bool false, .int .i32 0, .int .i32 0, .int .i32 0, .int .i32 0, .int .i32 0, .bool false, .int .i32 0, .pointer none], agg := true, kd := .struct [(0, (28, true)), (28, (1, false))] }
theorem tok79 : TIok Try.prog 79 ti79 := ⟨by kernel_rfl, by kernel_rfl, by kernel_rfl, by kernel_rfl, fun _ h => by cases h⟩
def ti94 : TI := { size := 1, zv := .agg #[.slice none 0 0], agg := true, kd := .struct [(0, (1, false))] }
theorem tok94 : TIok Try.prog 94 ti94 := ⟨by kernel_rfl, by kernel_rfl, by kernel_rfl, by kernel_rfl, fun _ h => by cases h⟩
abbrev tt : TT := [(2, ti2), (3, ti3), (4, ti4), (5, ti5), (9, ti9), (21, ti21), (22, ti22), (23, ti23), (24, ti24), (26, ti26), (28, ti28), (30, ti30), (32, ti32), (34, ti34), (44, ti44), (46, ti46), (49, ti49), (58, ti58), (59, ti59), (66, ti66), (76, ti76), (77, ti77), (79, ti79), (94, ti94)]
theorem tt_ok : TTok Try.prog tt := ⟨tok2, tok3, tok4, tok5, tok9, tok21, tok22, tok23, tok24, tok26, tok28, tok30, tok32, tok34, tok44, tok46, tok49, tok58, tok59, tok66, tok76, tok77, tok79, tok94, (show Try.prog.follows .mixedOrders = true by kernel_rfl)⟩
@[match_pattern] abbrev f_l30_ChannelOrder : Nat := 3
theorem fn_l30_ChannelOrder : Try.prog.funcs[f_l30_ChannelOrder]? = some Try.f3 := Try.func3
abbrev n_l30_ChannelOrder : Nat := 101
theorem nt_l30_ChannelOrder : Try.f3.ntmps = n_l30_ChannelOrder := Try.ntmps3
abbrev k_l30_ChannelOrder : List Nat := [0, 1, 4, 5, 6, 7, 8, 9, 10, 11, 12, 13, 14, 15, 16, 17, 25, 26, 27, 28, 50, 75, 93]
abbrev rs_l30_ChannelOrder : List ResultVar := [.tmp 4]
theorem cal_l30_ChannelOrder : Sx.Callee Try.prog f_l30_ChannelOrder := ⟨_, Try.func3, by kernel_rfl, by kernel_rfl⟩
noncomputable abbrev in_l30_ChannelOrder (ct : CT) : Ent := .st (inlS tt ct n_l30_ChannelOrder k_l30_ChannelOrder rs_l30_ChannelOrder 60 (Try.f3.body.getD .skip))
theorem in_l30_ChannelOrder_ok {ct : CT} (h : CTok Try.prog ct) : EntOk Try.prog f_l30_ChannelOrder (in_l30_ChannelOrder ct) := inl_ok tt_ok h 60 fn_l30_ChannelOrder rfl nt_l30_ChannelOrder rfl cal_l30_ChannelOrder (by kernel_rfl)
@[match_pattern] abbrev f_l30_ChannelChoices : Nat := 4
theorem fn_l30_ChannelChoices : Try.prog.funcs[f_l30_ChannelChoices]? = some Try.f4 := Try.func4
abbrev n_l30_ChannelChoices : Nat := 121
theorem nt_l30_ChannelChoices : Try.f4.ntmps = n_l30_ChannelChoices := Try.ntmps4
abbrev k_l30_ChannelChoices : List Nat := [0, 1, 2, 6, 7, 8, 9, 10, 11, 12, 63, 84]
abbrev rs_l30_ChannelChoices : List ResultVar := [.tmp 6]
theorem cal_l30_ChannelChoices : Sx.Callee Try.prog f_l30_ChannelChoices := ⟨_, Try.func4, by kernel_rfl, by kernel_rfl⟩
noncomputable abbrev in_l30_ChannelChoices (ct : CT) : Ent := .st (inlS tt ct n_l30_ChannelChoices k_l30_ChannelChoices rs_l30_ChannelChoices 60 (Try.f4.body.getD .skip))
theorem in_l30_ChannelChoices_ok {ct : CT} (h : CTok Try.prog ct) : EntOk Try.prog f_l30_ChannelChoices (in_l30_ChannelChoices ct) := inl_ok tt_ok h 60 fn_l30_ChannelChoices rfl nt_l30_ChannelChoices rfl cal_l30_ChannelChoices (by kernel_rfl)
@[match_pattern] abbrev f_l30_ChannelNothing : Nat := 5
theorem fn_l30_ChannelNothing : Try.prog.funcs[f_l30_ChannelNothing]? = some Try.f5 := Try.func5
abbrev n_l30_ChannelNothing : Nat := 76
theorem nt_l30_ChannelNothing : Try.f5.ntmps = n_l30_ChannelNothing := Try.ntmps5
abbrev k_l30_ChannelNothing : List Nat := [0, 1, 2, 6, 7, 8, 9, 10, 20, 23, 32, 49, 58]
abbrev rs_l30_ChannelNothing : List ResultVar := [.tmp 6]
theorem cal_l30_ChannelNothing : Sx.Callee Try.prog f_l30_ChannelNothing := ⟨_, Try.func5, by kernel_rfl, by kernel_rfl⟩
noncomputable abbrev in_l30_ChannelNothing (ct : CT) : Ent := .st (inlS tt ct n_l30_ChannelNothing k_l30_ChannelNothing rs_l30_ChannelNothing 60 (Try.f5.body.getD .skip))
theorem in_l30_ChannelNothing_ok {ct : CT} (h : CTok Try.prog ct) : EntOk Try.prog f_l30_ChannelNothing (in_l30_ChannelNothing ct) := inl_ok tt_ok h 60 fn_l30_ChannelNothing rfl nt_l30_ChannelNothing rfl cal_l30_ChannelNothing (by kernel_rfl)
@[match_pattern] abbrev f_l30_ChannelShort : Nat := 6
theorem fn_l30_ChannelShort : Try.prog.funcs[f_l30_ChannelShort]? = some Try.f6 := Try.func6
abbrev n_l30_ChannelShort : Nat := 77
theorem nt_l30_ChannelShort : Try.f6.ntmps = n_l30_ChannelShort := Try.ntmps6
abbrev k_l30_ChannelShort : List Nat := [0, 1, 4, 5, 6, 7, 8, 9, 10, 16, 46]
abbrev rs_l30_ChannelShort : List ResultVar := [.tmp 4]
theorem cal_l30_ChannelShort : Sx.Callee Try.prog f_l30_ChannelShort := ⟨_, Try.func6, by kernel_rfl, by kernel_rfl⟩
noncomputable abbrev in_l30_ChannelShort (ct : CT) : Ent := .st (inlS tt ct n_l30_ChannelShort k_l30_ChannelShort rs_l30_ChannelShort 60 (Try.f6.body.getD .skip))
theorem in_l30_ChannelShort_ok {ct : CT} (h : CTok Try.prog ct) : EntOk Try.prog f_l30_ChannelShort (in_l30_ChannelShort ct) := inl_ok tt_ok h 60 fn_l30_ChannelShort rfl nt_l30_ChannelShort rfl cal_l30_ChannelShort (by kernel_rfl)
@[match_pattern] abbrev f_l30_ChannelMoves : Nat := 7
theorem fn_l30_ChannelMoves : Try.prog.funcs[f_l30_ChannelMoves]? = some Try.f7 := Try.func7
abbrev n_l30_ChannelMoves : Nat := 76
theorem nt_l30_ChannelMoves : Try.f7.ntmps = n_l30_ChannelMoves := Try.ntmps7
abbrev k_l30_ChannelMoves : List Nat := [0, 1, 2, 3, 4, 5, 10, 11, 12, 13, 14, 15, 16, 17, 18, 19, 20, 23, 25, 26, 34, 37, 73]
abbrev rs_l30_ChannelMoves : List ResultVar := [.tmp 10]
theorem cal_l30_ChannelMoves : Sx.Callee Try.prog f_l30_ChannelMoves := ⟨_, Try.func7, by kernel_rfl, by kernel_rfl⟩
noncomputable abbrev in_l30_ChannelMoves (ct : CT) : Ent := .st (inlS tt ct n_l30_ChannelMoves k_l30_ChannelMoves rs_l30_ChannelMoves 60 (Try.f7.body.getD .skip))
theorem in_l30_ChannelMoves_ok {ct : CT} (h : CTok Try.prog ct) : EntOk Try.prog f_l30_ChannelMoves (in_l30_ChannelMoves ct) := inl_ok tt_ok h 60 fn_l30_ChannelMoves rfl nt_l30_ChannelMoves rfl cal_l30_ChannelMoves (by kernel_rfl)
@[match_pattern] abbrev f_l30_ChannelExecs : Nat := 8
theorem fn_l30_ChannelExecs : Try.prog.funcs[f_l30_ChannelExecs]? = some Try.f8 := Try.func8
abbrev n_l30_ChannelExecs : Nat := 66
theorem nt_l30_ChannelExecs : Try.f8.ntmps = n_l30_ChannelExecs := Try.ntmps8
abbrev k_l30_ChannelExecs : List Nat := [0, 1, 2, 3, 5, 6, 7, 8, 9, 10, 11, 12, 13, 25]
abbrev rs_l30_ChannelExecs : List ResultVar := [.tmp 6]
theorem cal_l30_ChannelExecs : Sx.Callee Try.prog f_l30_ChannelExecs := ⟨_, Try.func8, by kernel_rfl, by kernel_rfl⟩
noncomputable abbrev in_l30_ChannelExecs (ct : CT) : Ent := .st (inlS tt ct n_l30_ChannelExecs k_l30_ChannelExecs rs_l30_ChannelExecs 60 (Try.f8.body.getD .skip))
theorem in_l30_ChannelExecs_ok {ct : CT} (h : CTok Try.prog ct) : EntOk Try.prog f_l30_ChannelExecs (in_l30_ChannelExecs ct) := inl_ok tt_ok h 60 fn_l30_ChannelExecs rfl nt_l30_ChannelExecs rfl cal_l30_ChannelExecs (by kernel_rfl)
@[match_pattern] abbrev f_l30_ChannelErrors : Nat := 9
theorem fn_l30_ChannelErrors : Try.prog.funcs[f_l30_ChannelErrors]? = some Try.f9 := Try.func9
abbrev n_l30_ChannelErrors : Nat := 101
theorem nt_l30_ChannelErrors : Try.f9.ntmps = n_l30_ChannelErrors := Try.ntmps9
abbrev k_l30_ChannelErrors : List Nat := [0, 1, 2, 3, 5, 6, 8, 9, 10, 11, 12, 13, 22, 34, 44, 59]
abbrev rs_l30_ChannelErrors : List ResultVar := [.tmp 6]
theorem cal_l30_ChannelErrors : Sx.Callee Try.prog f_l30_ChannelErrors := ⟨_, Try.func9, by kernel_rfl, by kernel_rfl⟩
noncomputable abbrev in_l30_ChannelErrors (ct : CT) : Ent := .st (inlS tt ct n_l30_ChannelErrors k_l30_ChannelErrors rs_l30_ChannelErrors 60 (Try.f9.body.getD .skip))
theorem in_l30_ChannelErrors_ok {ct : CT} (h : CTok Try.prog ct) : EntOk Try.prog f_l30_ChannelErrors (in_l30_ChannelErrors ct) := inl_ok tt_ok h 60 fn_l30_ChannelErrors rfl nt_l30_ChannelErrors rfl cal_l30_ChannelErrors (by kernel_rfl)
@[match_pattern] abbrev f_l30_ChannelCarries : Nat := 10
theorem fn_l30_ChannelCarries : Try.prog.funcs[f_l30_ChannelCarries]? = some Try.f10 := Try.func10
abbrev n_l30_ChannelCarries : Nat := 220
theorem nt_l30_ChannelCarries : Try.f10.ntmps = n_l30_ChannelCarries := Try.ntmps10
abbrev k_l30_ChannelCarries : List Nat := [0, 1, 2, 3, 8, 9, 10, 11, 12, 13, 14, 15, 16, 17, 18, 19, 20, 22, 23, 24, 52, 80, 130, 164, 177, 179, 180, 181, 217]
abbrev rs_l30_ChannelCarries : List ResultVar := [.tmp 8]
theorem cal_l30_ChannelCarries : Sx.Callee Try.prog f_l30_ChannelCarries := ⟨_, Try.func10, by kernel_rfl, by kernel_rfl⟩
noncomputable abbrev in_l30_ChannelCarries (ct : CT) : Ent := .st (inlS tt ct n_l30_ChannelCarries k_l30_ChannelCarries rs_l30_ChannelCarries 60 (Try.f10.body.getD .skip))
theorem in_l30_ChannelCarries_ok {ct : CT} (h : CTok Try.prog ct) : EntOk Try.prog f_l30_ChannelCarries (in_l30_ChannelCarries ct) := inl_ok tt_ok h 60 fn_l30_ChannelCarries rfl nt_l30_ChannelCarries rfl cal_l30_ChannelCarries (by kernel_rfl)
@[match_pattern] abbrev f_l30_fresh : Nat := 11
theorem fn_l30_fresh : Try.prog.funcs[f_l30_fresh]? = some Try.f11 := Try.func11
abbrev n_l30_fresh : Nat := 12
theorem nt_l30_fresh : Try.f11.ntmps = n_l30_fresh := Try.ntmps11
abbrev k_l30_fresh : List Nat := [0, 1, 2, 8]
abbrev rs_l30_fresh : List ResultVar := [.tmp 0]
theorem cal_l30_fresh : Sx.Callee Try.prog f_l30_fresh := ⟨_, Try.func11, by kernel_rfl, by kernel_rfl⟩
noncomputable abbrev in_l30_fresh (ct : CT) : Ent := .st (inlS tt ct n_l30_fresh k_l30_fresh rs_l30_fresh 60 (Try.f11.body.getD .skip))
theorem in_l30_fresh_ok {ct : CT} (h : CTok Try.prog ct) : EntOk Try.prog f_l30_fresh (in_l30_fresh ct) := inl_ok tt_ok h 60 fn_l30_fresh rfl nt_l30_fresh rfl cal_l30_fresh (by kernel_rfl)
@[match_pattern] abbrev f_l30_runs : Nat := 12
theorem fn_l30_runs : Try.prog.funcs[f_l30_runs]? = some Try.f12 := Try.func12
abbrev n_l30_runs : Nat := 16
theorem nt_l30_runs : Try.f12.ntmps = n_l30_runs := Try.ntmps12
abbrev k_l30_runs : List Nat := [0, 1, 2, 6, 7]
abbrev rs_l30_runs : List ResultVar := [.cell 6 30]
theorem cal_l30_runs : Sx.Callee Try.prog f_l30_runs := ⟨_, Try.func12, by kernel_rfl, by kernel_rfl⟩
noncomputable abbrev in_l30_runs (ct : CT) : Ent := .st (inlS tt ct n_l30_runs k_l30_runs rs_l30_runs 60 (Try.f12.body.getD .skip))
theorem in_l30_runs_ok {ct : CT} (h : CTok Try.prog ct) : EntOk Try.prog f_l30_runs (in_l30_runs ct) := inl_ok tt_ok h 60 fn_l30_runs rfl nt_l30_runs rfl cal_l30_runs (by kernel_rfl)
@[match_pattern] abbrev f_mem_Mem_SetWord : Nat := 13
theorem fn_mem_Mem_SetWord : Try.prog.funcs[f_mem_Mem_SetWord]? = some Try.f13 := Try.func13
abbrev n_mem_Mem_SetWord : Nat := 32
theorem nt_mem_Mem_SetWord : Try.f13.ntmps = n_mem_Mem_SetWord := Try.ntmps13
abbrev k_mem_Mem_SetWord : List Nat := [0, 1, 2, 6, 7, 8, 9, 17, 18, 19]
abbrev rs_mem_Mem_SetWord : List ResultVar := [.tmp 6]
theorem cal_mem_Mem_SetWord : Sx.Callee Try.prog f_mem_Mem_SetWord := ⟨_, Try.func13, by kernel_rfl, by kernel_rfl⟩
noncomputable abbrev in_mem_Mem_SetWord (ct : CT) : Ent := .st (inlS tt ct n_mem_Mem_SetWord k_mem_Mem_SetWord rs_mem_Mem_SetWord 60 (Try.f13.body.getD .skip))
theorem in_mem_Mem_SetWord_ok {ct : CT} (h : CTok Try.prog ct) : EntOk Try.prog f_mem_Mem_SetWord (in_mem_Mem_SetWord ct) := inl_ok tt_ok h 60 fn_mem_Mem_SetWord rfl nt_mem_Mem_SetWord rfl cal_mem_Mem_SetWord (by kernel_rfl)
@[match_pattern] abbrev f_channel_Out : Nat := 14
theorem fn_channel_Out : Try.prog.funcs[f_channel_Out]? = some Try.f14 := Try.func14
abbrev n_channel_Out : Nat := 108
theorem nt_channel_Out : Try.f14.ntmps = n_channel_Out := Try.ntmps14
abbrev k_channel_Out : List Nat := [0, 1, 2, 3, 4, 5, 10, 11, 12, 13, 14, 15, 25, 29, 42, 60, 86, 93]
abbrev rs_channel_Out : List ResultVar := [.cell 10 30, .tmp 11]
theorem cal_channel_Out : Sx.Callee Try.prog f_channel_Out := ⟨_, Try.func14, by kernel_rfl, by kernel_rfl⟩
noncomputable abbrev in_channel_Out (ct : CT) : Ent := .st (inlS tt ct n_channel_Out k_channel_Out rs_channel_Out 60 (Try.f14.body.getD .skip))
theorem in_channel_Out_ok {ct : CT} (h : CTok Try.prog ct) : EntOk Try.prog f_channel_Out (in_channel_Out ct) := inl_ok tt_ok h 60 fn_channel_Out rfl nt_channel_Out rfl cal_channel_Out (by kernel_rfl)
@[match_pattern] abbrev f_channel_In : Nat := 15
theorem fn_channel_In : Try.prog.funcs[f_channel_In]? = some Try.f15 := Try.func15
abbrev n_channel_In : Nat := 60
theorem nt_channel_In : Try.f15.ntmps = n_channel_In := Try.ntmps15
abbrev k_channel_In : List Nat := [0, 1, 2, 3, 4, 5, 10, 11, 12, 13, 14, 24, 28, 40]
abbrev rs_channel_In : List ResultVar := [.cell 10 30, .tmp 11]
theorem cal_channel_In : Sx.Callee Try.prog f_channel_In := ⟨_, Try.func15, by kernel_rfl, by kernel_rfl⟩
noncomputable abbrev in_channel_In (ct : CT) : Ent := .st (inlS tt ct n_channel_In k_channel_In rs_channel_In 60 (Try.f15.body.getD .skip))
theorem in_channel_In_ok {ct : CT} (h : CTok Try.prog ct) : EntOk Try.prog f_channel_In (in_channel_In ct) := inl_ok tt_ok h 60 fn_channel_In rfl nt_channel_In rfl cal_channel_In (by kernel_rfl)
@[match_pattern] abbrev f_l30_passes : Nat := 16
theorem fn_l30_passes : Try.prog.funcs[f_l30_passes]? = some Try.f16 := Try.func16
abbrev n_l30_passes : Nat := 20
theorem nt_l30_passes : Try.f16.ntmps = n_l30_passes := Try.ntmps16
abbrev k_l30_passes : List Nat := [0, 1, 2, 3, 4, 8]
abbrev rs_l30_passes : List ResultVar := [.cell 8 30]
theorem cal_l30_passes : Sx.Callee Try.prog f_l30_passes := ⟨_, Try.func16, by kernel_rfl, by kernel_rfl⟩
noncomputable abbrev in_l30_passes (ct : CT) : Ent := .st (inlS tt ct n_l30_passes k_l30_passes rs_l30_passes 60 (Try.f16.body.getD .skip))
theorem in_l30_passes_ok {ct : CT} (h : CTok Try.prog ct) : EntOk Try.prog f_l30_passes (in_l30_passes ct) := inl_ok tt_ok h 60 fn_l30_passes rfl nt_l30_passes rfl cal_l30_passes (by kernel_rfl)
@[match_pattern] abbrev f_l30_word : Nat := 17
theorem fn_l30_word : Try.prog.funcs[f_l30_word]? = some Try.f17 := Try.func17
abbrev n_l30_word : Nat := 14
theorem nt_l30_word : Try.f17.ntmps = n_l30_word := Try.ntmps17
abbrev k_l30_word : List Nat := [0, 1, 4, 5]
abbrev rs_l30_word : List ResultVar := [.tmp 4]
theorem cal_l30_word : Sx.Callee Try.prog f_l30_word := ⟨_, Try.func17, by kernel_rfl, by kernel_rfl⟩
noncomputable abbrev in_l30_word (ct : CT) : Ent := .st (inlS tt ct n_l30_word k_l30_word rs_l30_word 60 (Try.f17.body.getD .skip))
theorem in_l30_word_ok {ct : CT} (h : CTok Try.prog ct) : EntOk Try.prog f_l30_word (in_l30_word ct) := inl_ok tt_ok h 60 fn_l30_word rfl nt_l30_word rfl cal_l30_word (by kernel_rfl)
@[match_pattern] abbrev f_l30_awake : Nat := 18
theorem fn_l30_awake : Try.prog.funcs[f_l30_awake]? = some Try.f18 := Try.func18
abbrev n_l30_awake : Nat := 151
theorem nt_l30_awake : Try.f18.ntmps = n_l30_awake := Try.ntmps18
abbrev k_l30_awake : List Nat := [0, 1, 2, 3, 4, 5, 7, 9, 11, 13]
abbrev rs_l30_awake : List ResultVar := [.tmp 0]
theorem cal_l30_awake : Sx.Callee Try.prog f_l30_awake := ⟨_, Try.func18, by kernel_rfl, by kernel_rfl⟩
noncomputable abbrev in_l30_awake (ct : CT) : Ent := .st (inlS tt ct n_l30_awake k_l30_awake rs_l30_awake 60 (Try.f18.body.getD .skip))
theorem in_l30_awake_ok {ct : CT} (h : CTok Try.prog ct) : EntOk Try.prog f_l30_awake (in_l30_awake ct) := inl_ok tt_ok h 60 fn_l30_awake rfl nt_l30_awake rfl cal_l30_awake (by kernel_rfl)
@[match_pattern] abbrev f_channel_Exec : Nat := 19
theorem fn_channel_Exec : Try.prog.funcs[f_channel_Exec]? = some Try.f19 := Try.func19
abbrev n_channel_Exec : Nat := 38
theorem nt_channel_Exec : Try.f19.ntmps = n_channel_Exec := Try.ntmps19
abbrev k_channel_Exec : List Nat := [0, 1, 2, 3, 5, 6, 7, 8, 13, 23]
abbrev rs_channel_Exec : List ResultVar := [.cell 6 30, .tmp 7]
theorem cal_channel_Exec : Sx.Callee Try.prog f_channel_Exec := ⟨_, Try.func19, by kernel_rfl, by kernel_rfl⟩
noncomputable abbrev in_channel_Exec (ct : CT) : Ent := .st (inlS tt ct n_channel_Exec k_channel_Exec rs_channel_Exec 60 (Try.f19.body.getD .skip))
theorem in_channel_Exec_ok {ct : CT} (h : CTok Try.prog ct) : EntOk Try.prog f_channel_Exec (in_channel_Exec ct) := inl_ok tt_ok h 60 fn_channel_Exec rfl nt_channel_Exec rfl cal_channel_Exec (by kernel_rfl)
@[match_pattern] abbrev f_l30_memory : Nat := 20
theorem fn_l30_memory : Try.prog.funcs[f_l30_memory]? = some Try.f20 := Try.func20
abbrev n_l30_memory : Nat := 15
theorem nt_l30_memory : Try.f20.ntmps = n_l30_memory := Try.ntmps20
abbrev k_l30_memory : List Nat := [0, 2, 3, 4, 5]
abbrev rs_l30_memory : List ResultVar := [.tmp 2, .tmp 3]
theorem cal_l30_memory : Sx.Callee Try.prog f_l30_memory := ⟨_, Try.func20, by kernel_rfl, by kernel_rfl⟩
noncomputable abbrev in_l30_memory (ct : CT) : Ent := .st (inlS tt ct n_l30_memory k_l30_memory rs_l30_memory 60 (Try.f20.body.getD .skip))
theorem in_l30_memory_ok {ct : CT} (h : CTok Try.prog ct) : EntOk Try.prog f_l30_memory (in_l30_memory ct) := inl_ok tt_ok h 60 fn_l30_memory rfl nt_l30_memory rfl cal_l30_memory (by kernel_rfl)
@[match_pattern] abbrev f_r30_In : Nat := 21
theorem fn_r30_In : Try.prog.funcs[f_r30_In]? = some Try.f21 := Try.func21
abbrev n_r30_In : Nat := 82
theorem nt_r30_In : Try.f21.ntmps = n_r30_In := Try.ntmps21
abbrev k_r30_In : List Nat := [0, 1, 2, 3, 4, 5, 10, 11, 12, 13, 14, 15, 17, 18, 27, 32, 49, 63, 76]
abbrev rs_r30_In : List ResultVar := [.cell 10 30, .tmp 11, .tmp 12]
theorem cal_r30_In : Sx.Callee Try.prog f_r30_In := ⟨_, Try.func21, by kernel_rfl, by kernel_rfl⟩
noncomputable abbrev in_r30_In (ct : CT) : Ent := .st (inlS tt ct n_r30_In k_r30_In rs_r30_In 60 (Try.f21.body.getD .skip))
theorem in_r30_In_ok {ct : CT} (h : CTok Try.prog ct) : EntOk Try.prog f_r30_In (in_r30_In ct) := inl_ok tt_ok h 60 fn_r30_In rfl nt_r30_In rfl cal_r30_In (by kernel_rfl)
@[match_pattern] abbrev f_r30_Out : Nat := 22
theorem fn_r30_Out : Try.prog.funcs[f_r30_Out]? = some Try.f22 := Try.func22
abbrev n_r30_Out : Nat := 138
theorem nt_r30_Out : Try.f22.ntmps = n_r30_Out := Try.ntmps22
abbrev k_r30_Out : List Nat := [0, 1, 2, 3, 4, 5, 10, 11, 12, 13, 14, 15, 17, 18, 19, 20, 29, 34, 51, 64, 69, 91, 102, 106, 119, 132]
abbrev rs_r30_Out : List ResultVar := [.cell 10 30, .tmp 11, .tmp 12]
theorem cal_r30_Out : Sx.Callee Try.prog f_r30_Out := ⟨_, Try.func22, by kernel_rfl, by kernel_rfl⟩
noncomputable abbrev in_r30_Out (ct : CT) : Ent := .st (inlS tt ct n_r30_Out k_r30_Out rs_r30_Out 60 (Try.f22.body.getD .skip))
theorem in_r30_Out_ok {ct : CT} (h : CTok Try.prog ct) : EntOk Try.prog f_r30_Out (in_r30_Out ct) := inl_ok tt_ok h 60 fn_r30_Out rfl nt_r30_Out rfl cal_r30_Out (by kernel_rfl)
@[match_pattern] abbrev f_bytes_Equal : Nat := 23
theorem fn_bytes_Equal : Try.prog.funcs[f_bytes_Equal]? = some Try.f23 := Try.func23
abbrev n_bytes_Equal : Nat := 10
theorem nt_bytes_Equal : Try.f23.ntmps = n_bytes_Equal := Try.ntmps23
abbrev k_bytes_Equal : List Nat := [0, 1, 4]
abbrev rs_bytes_Equal : List ResultVar := [.tmp 4]
theorem cal_bytes_Equal : Sx.Callee Try.prog f_bytes_Equal := ⟨_, Try.func23, by kernel_rfl, by kernel_rfl⟩
noncomputable abbrev in_bytes_Equal (ct : CT) : Ent := .st (inlS tt ct n_bytes_Equal k_bytes_Equal rs_bytes_Equal 60 (Try.f23.body.getD .skip))
theorem in_bytes_Equal_ok {ct : CT} (h : CTok Try.prog ct) : EntOk Try.prog f_bytes_Equal (in_bytes_Equal ct) := inl_ok tt_ok h 60 fn_bytes_Equal rfl nt_bytes_Equal rfl cal_bytes_Equal (by kernel_rfl)
@[match_pattern] abbrev f_mem_Mem_Bytes : Nat := 24
theorem fn_mem_Mem_Bytes : Try.prog.funcs[f_mem_Mem_Bytes]? = some Try.f24 := Try.func24
abbrev n_mem_Mem_Bytes : Nat := 19
theorem nt_mem_Mem_Bytes : Try.f24.ntmps = n_mem_Mem_Bytes := Try.ntmps24
abbrev k_mem_Mem_Bytes : List Nat := [0, 2, 3, 5]
abbrev rs_mem_Mem_Bytes : List ResultVar := [.tmp 2]
theorem cal_mem_Mem_Bytes : Sx.Callee Try.prog f_mem_Mem_Bytes := ⟨_, Try.func24, by kernel_rfl, by kernel_rfl⟩
noncomputable abbrev in_mem_Mem_Bytes (ct : CT) : Ent := .st (inlS tt ct n_mem_Mem_Bytes k_mem_Mem_Bytes rs_mem_Mem_Bytes 60 (Try.f24.body.getD .skip))
theorem in_mem_Mem_Bytes_ok {ct : CT} (h : CTok Try.prog ct) : EntOk Try.prog f_mem_Mem_Bytes (in_mem_Mem_Bytes ct) := inl_ok tt_ok h 60 fn_mem_Mem_Bytes rfl nt_mem_Mem_Bytes rfl cal_mem_Mem_Bytes (by kernel_rfl)
@[match_pattern] abbrev f_r30_Exec : Nat := 25
theorem fn_r30_Exec : Try.prog.funcs[f_r30_Exec]? = some Try.f25 := Try.func25
abbrev n_r30_Exec : Nat := 98
theorem nt_r30_Exec : Try.f25.ntmps = n_r30_Exec := Try.ntmps25
abbrev k_r30_Exec : List Nat := [0, 1, 2, 3, 5, 6, 7, 8, 9, 10, 11, 20, 25, 29, 30, 44, 58, 66, 83]
abbrev rs_r30_Exec : List ResultVar := [.cell 6 30, .tmp 7, .tmp 8]
theorem cal_r30_Exec : Sx.Callee Try.prog f_r30_Exec := ⟨_, Try.func25, by kernel_rfl, by kernel_rfl⟩
noncomputable abbrev in_r30_Exec (ct : CT) : Ent := .st (inlS tt ct n_r30_Exec k_r30_Exec rs_r30_Exec 60 (Try.f25.body.getD .skip))
theorem in_r30_Exec_ok {ct : CT} (h : CTok Try.prog ct) : EntOk Try.prog f_r30_Exec (in_r30_Exec ct) := inl_ok tt_ok h 60 fn_r30_Exec rfl nt_r30_Exec rfl cal_r30_Exec (by kernel_rfl)
@[match_pattern] abbrev f_channel_Mine : Nat := 26
theorem fn_channel_Mine : Try.prog.funcs[f_channel_Mine]? = some Try.f26 := Try.func26
abbrev n_channel_Mine : Nat := 19
theorem nt_channel_Mine : Try.f26.ntmps = n_channel_Mine := Try.ntmps26
abbrev k_channel_Mine : List Nat := [0, 1, 2, 4]
abbrev rs_channel_Mine : List ResultVar := [.tmp 2]
theorem cal_channel_Mine : Sx.Callee Try.prog f_channel_Mine := ⟨_, Try.func26, by kernel_rfl, by kernel_rfl⟩
noncomputable abbrev in_channel_Mine (ct : CT) : Ent := .st (inlS tt ct n_channel_Mine k_channel_Mine rs_channel_Mine 60 (Try.f26.body.getD .skip))
theorem in_channel_Mine_ok {ct : CT} (h : CTok Try.prog ct) : EntOk Try.prog f_channel_Mine (in_channel_Mine ct) := inl_ok tt_ok h 60 fn_channel_Mine rfl nt_channel_Mine rfl cal_channel_Mine (by kernel_rfl)
@[match_pattern] abbrev f_r30_Mine : Nat := 27
theorem fn_r30_Mine : Try.prog.funcs[f_r30_Mine]? = some Try.f27 := Try.func27
abbrev n_r30_Mine : Nat := 31
theorem nt_r30_Mine : Try.f27.ntmps = n_r30_Mine := Try.ntmps27
abbrev k_r30_Mine : List Nat := [0, 1, 2]
abbrev rs_r30_Mine : List ResultVar := [.tmp 2]
theorem cal_r30_Mine : Sx.Callee Try.prog f_r30_Mine := ⟨_, Try.func27, by kernel_rfl, by kernel_rfl⟩
noncomputable abbrev in_r30_Mine (ct : CT) : Ent := .st (inlS tt ct n_r30_Mine k_r30_Mine rs_r30_Mine 60 (Try.f27.body.getD .skip))
theorem in_r30_Mine_ok {ct : CT} (h : CTok Try.prog ct) : EntOk Try.prog f_r30_Mine (in_r30_Mine ct) := inl_ok tt_ok h 60 fn_r30_Mine rfl nt_r30_Mine rfl cal_r30_Mine (by kernel_rfl)
@[match_pattern] abbrev f_mem_Mem_Write : Nat := 28
theorem fn_mem_Mem_Write : Try.prog.funcs[f_mem_Mem_Write]? = some Try.f28 := Try.func28
abbrev n_mem_Mem_Write : Nat := 26
theorem nt_mem_Mem_Write : Try.f28.ntmps = n_mem_Mem_Write := Try.ntmps28
abbrev k_mem_Mem_Write : List Nat := [0, 1, 2, 6, 7, 8, 10, 13]
abbrev rs_mem_Mem_Write : List ResultVar := [.tmp 6]
theorem cal_mem_Mem_Write : Sx.Callee Try.prog f_mem_Mem_Write := ⟨_, Try.func28, by kernel_rfl, by kernel_rfl⟩
noncomputable abbrev in_mem_Mem_Write (ct : CT) : Ent := .st (inlS tt ct n_mem_Mem_Write k_mem_Mem_Write rs_mem_Mem_Write 60 (Try.f28.body.getD .skip))
theorem in_mem_Mem_Write_ok {ct : CT} (h : CTok Try.prog ct) : EntOk Try.prog f_mem_Mem_Write (in_mem_Mem_Write ct) := inl_ok tt_ok h 60 fn_mem_Mem_Write rfl nt_mem_Mem_Write rfl cal_mem_Mem_Write (by kernel_rfl)
@[match_pattern] abbrev f_l30_ChannelCarries_1 : Nat := 29
theorem fn_l30_ChannelCarries_1 : Try.prog.funcs[f_l30_ChannelCarries_1]? = some Try.f29 := Try.func29
abbrev n_l30_ChannelCarries_1 : Nat := 21
theorem nt_l30_ChannelCarries_1 : Try.f29.ntmps = n_l30_ChannelCarries_1 := Try.ntmps29
abbrev k_l30_ChannelCarries_1 : List Nat := [0, 1, 2, 3, 4, 6, 7, 8]
abbrev rs_l30_ChannelCarries_1 : List ResultVar := [.cell 6 30, .tmp 7]
theorem cal_l30_ChannelCarries_1 : Sx.Callee Try.prog f_l30_ChannelCarries_1 := ⟨_, Try.func29, by kernel_rfl, by kernel_rfl⟩
noncomputable abbrev in_l30_ChannelCarries_1 (ct : CT) : Ent := .st (inlS tt ct n_l30_ChannelCarries_1 k_l30_ChannelCarries_1 rs_l30_ChannelCarries_1 60 (Try.f29.body.getD .skip))
theorem in_l30_ChannelCarries_1_ok {ct : CT} (h : CTok Try.prog ct) : EntOk Try.prog f_l30_ChannelCarries_1 (in_l30_ChannelCarries_1 ct) := inl_ok tt_ok h 60 fn_l30_ChannelCarries_1 rfl nt_l30_ChannelCarries_1 rfl cal_l30_ChannelCarries_1 (by kernel_rfl)
@[match_pattern] abbrev f_mem_Mem_Read : Nat := 30
theorem fn_mem_Mem_Read : Try.prog.funcs[f_mem_Mem_Read]? = some Try.f30 := Try.func30
abbrev n_mem_Mem_Read : Nat := 33
theorem nt_mem_Mem_Read : Try.f30.ntmps = n_mem_Mem_Read := Try.ntmps30
abbrev k_mem_Mem_Read : List Nat := [0, 1, 2, 6, 7, 8, 9, 10, 12, 14, 16, 25]
abbrev rs_mem_Mem_Read : List ResultVar := [.tmp 6, .tmp 7]
theorem cal_mem_Mem_Read : Sx.Callee Try.prog f_mem_Mem_Read := ⟨_, Try.func30, by kernel_rfl, by kernel_rfl⟩
noncomputable abbrev in_mem_Mem_Read (ct : CT) : Ent := .st (inlS tt ct n_mem_Mem_Read k_mem_Mem_Read rs_mem_Mem_Read 60 (Try.f30.body.getD .skip))
theorem in_mem_Mem_Read_ok {ct : CT} (h : CTok Try.prog ct) : EntOk Try.prog f_mem_Mem_Read (in_mem_Mem_Read ct) := inl_ok tt_ok h 60 fn_mem_Mem_Read rfl nt_mem_Mem_Read rfl cal_mem_Mem_Read (by kernel_rfl)
@[match_pattern] abbrev f_mem_New : Nat := 31
theorem fn_mem_New : Try.prog.funcs[f_mem_New]? = some Try.f31 := Try.func31
abbrev n_mem_New : Nat := 11
theorem nt_mem_New : Try.f31.ntmps = n_mem_New := Try.ntmps31
abbrev k_mem_New : List Nat := [0, 2, 3, 6]
abbrev rs_mem_New : List ResultVar := [.tmp 2, .tmp 3]
theorem cal_mem_New : Sx.Callee Try.prog f_mem_New := ⟨_, Try.func31, by kernel_rfl, by kernel_rfl⟩
noncomputable abbrev in_mem_New (ct : CT) : Ent := .st (inlS tt ct n_mem_New k_mem_New rs_mem_New 60 (Try.f31.body.getD .skip))
theorem in_mem_New_ok {ct : CT} (h : CTok Try.prog ct) : EntOk Try.prog f_mem_New (in_mem_New ct) := inl_ok tt_ok h 60 fn_mem_New rfl nt_mem_New rfl cal_mem_New (by kernel_rfl)
@[match_pattern] abbrev f_mem_Mem_word : Nat := 32
theorem fn_mem_Mem_word : Try.prog.funcs[f_mem_Mem_word]? = some Try.f32 := Try.func32
abbrev n_mem_Mem_word : Nat := 12
theorem nt_mem_Mem_word : Try.f32.ntmps = n_mem_Mem_word := Try.ntmps32
abbrev k_mem_Mem_word : List Nat := [0, 1, 4, 5]
abbrev rs_mem_Mem_word : List ResultVar := [.tmp 4, .tmp 5]
theorem cal_mem_Mem_word : Sx.Callee Try.prog f_mem_Mem_word := ⟨_, Try.func32, by kernel_rfl, by kernel_rfl⟩
noncomputable abbrev in_mem_Mem_word (ct : CT) : Ent := .st (inlS tt ct n_mem_Mem_word k_mem_Mem_word rs_mem_Mem_word 60 (Try.f32.body.getD .skip))
theorem in_mem_Mem_word_ok {ct : CT} (h : CTok Try.prog ct) : EntOk Try.prog f_mem_Mem_word (in_mem_Mem_word ct) := inl_ok tt_ok h 60 fn_mem_Mem_word rfl nt_mem_Mem_word rfl cal_mem_Mem_word (by kernel_rfl)
@[match_pattern] abbrev f_channel_begun : Nat := 33
theorem fn_channel_begun : Try.prog.funcs[f_channel_begun]? = some Try.f33 := Try.func33
abbrev n_channel_begun : Nat := 35
theorem nt_channel_begun : Try.f33.ntmps = n_channel_begun := Try.ntmps33
abbrev k_channel_begun : List Nat := [0, 1, 2, 3, 6, 7, 8, 12, 21]
abbrev rs_channel_begun : List ResultVar := [.tmp 6, .tmp 7]
theorem cal_channel_begun : Sx.Callee Try.prog f_channel_begun := ⟨_, Try.func33, by kernel_rfl, by kernel_rfl⟩
noncomputable abbrev in_channel_begun (ct : CT) : Ent := .st (inlS tt ct n_channel_begun k_channel_begun rs_channel_begun 60 (Try.f33.body.getD .skip))
theorem in_channel_begun_ok {ct : CT} (h : CTok Try.prog ct) : EntOk Try.prog f_channel_begun (in_channel_begun ct) := inl_ok tt_ok h 60 fn_channel_begun rfl nt_channel_begun rfl cal_channel_begun (by kernel_rfl)
@[match_pattern] abbrev f_channel_waits : Nat := 34
theorem fn_channel_waits : Try.prog.funcs[f_channel_waits]? = some Try.f34 := Try.func34
abbrev n_channel_waits : Nat := 36
theorem nt_channel_waits : Try.f34.ntmps = n_channel_waits := Try.ntmps34
abbrev k_channel_waits : List Nat := [0, 1, 2, 3, 4, 8, 9, 14]
abbrev rs_channel_waits : List ResultVar := [.cell 8 30, .tmp 9]
theorem cal_channel_waits : Sx.Callee Try.prog f_channel_waits := ⟨_, Try.func34, by kernel_rfl, by kernel_rfl⟩
noncomputable abbrev in_channel_waits (ct : CT) : Ent := .st (inlS tt ct n_channel_waits k_channel_waits rs_channel_waits 60 (Try.f34.body.getD .skip))
theorem in_channel_waits_ok {ct : CT} (h : CTok Try.prog ct) : EntOk Try.prog f_channel_waits (in_channel_waits ct) := inl_ok tt_ok h 60 fn_channel_waits rfl nt_channel_waits rfl cal_channel_waits (by kernel_rfl)
@[match_pattern] abbrev f_channel_valid : Nat := 35
theorem fn_channel_valid : Try.prog.funcs[f_channel_valid]? = some Try.f35 := Try.func35
abbrev n_channel_valid : Nat := 23
theorem nt_channel_valid : Try.f35.ntmps = n_channel_valid := Try.ntmps35
abbrev k_channel_valid : List Nat := [0, 1, 4, 5]
abbrev rs_channel_valid : List ResultVar := [.tmp 4]
theorem cal_channel_valid : Sx.Callee Try.prog f_channel_valid := ⟨_, Try.func35, by kernel_rfl, by kernel_rfl⟩
noncomputable abbrev in_channel_valid (ct : CT) : Ent := .st (inlS tt ct n_channel_valid k_channel_valid rs_channel_valid 60 (Try.f35.body.getD .skip))
theorem in_channel_valid_ok {ct : CT} (h : CTok Try.prog ct) : EntOk Try.prog f_channel_valid (in_channel_valid ct) := inl_ok tt_ok h 60 fn_channel_valid rfl nt_channel_valid rfl cal_channel_valid (by kernel_rfl)
@[match_pattern] abbrev f_mem_Mem_Word : Nat := 36
theorem fn_mem_Mem_Word : Try.prog.funcs[f_mem_Mem_Word]? = some Try.f36 := Try.func36
abbrev n_mem_Mem_Word : Nat := 40
theorem nt_mem_Mem_Word : Try.f36.ntmps = n_mem_Mem_Word := Try.ntmps36
abbrev k_mem_Mem_Word : List Nat := [0, 1, 4, 5, 6, 7, 15]
abbrev rs_mem_Mem_Word : List ResultVar := [.tmp 4, .tmp 5]
theorem cal_mem_Mem_Word : Sx.Callee Try.prog f_mem_Mem_Word := ⟨_, Try.func36, by kernel_rfl, by kernel_rfl⟩
noncomputable abbrev in_mem_Mem_Word (ct : CT) : Ent := .st (inlS tt ct n_mem_Mem_Word k_mem_Mem_Word rs_mem_Mem_Word 60 (Try.f36.body.getD .skip))
theorem in_mem_Mem_Word_ok {ct : CT} (h : CTok Try.prog ct) : EntOk Try.prog f_mem_Mem_Word (in_mem_Mem_Word ct) := inl_ok tt_ok h 60 fn_mem_Mem_Word rfl nt_mem_Mem_Word rfl cal_mem_Mem_Word (by kernel_rfl)
@[match_pattern] abbrev f_channel_copies : Nat := 37
theorem fn_channel_copies : Try.prog.funcs[f_channel_copies]? = some Try.f37 := Try.func37
abbrev n_channel_copies : Nat := 57
theorem nt_channel_copies : Try.f37.ntmps = n_channel_copies := Try.ntmps37
abbrev k_channel_copies : List Nat := [0, 1, 2, 3, 4, 5, 6, 7, 14, 15, 16, 17, 30, 33, 40]
abbrev rs_channel_copies : List ResultVar := [.cell 14 30, .tmp 15]
theorem cal_channel_copies : Sx.Callee Try.prog f_channel_copies := ⟨_, Try.func37, by kernel_rfl, by kernel_rfl⟩
noncomputable abbrev in_channel_copies (ct : CT) : Ent := .st (inlS tt ct n_channel_copies k_channel_copies rs_channel_copies 60 (Try.f37.body.getD .skip))
theorem in_channel_copies_ok {ct : CT} (h : CTok Try.prog ct) : EntOk Try.prog f_channel_copies (in_channel_copies ct) := inl_ok tt_ok h 60 fn_channel_copies rfl nt_channel_copies rfl cal_channel_copies (by kernel_rfl)
@[match_pattern] abbrev f_channel_queued : Nat := 38
theorem fn_channel_queued : Try.prog.funcs[f_channel_queued]? = some Try.f38 := Try.func38
abbrev n_channel_queued : Nat := 28
theorem nt_channel_queued : Try.f38.ntmps = n_channel_queued := Try.ntmps38
abbrev k_channel_queued : List Nat := [0, 1, 2, 3, 6]
abbrev rs_channel_queued : List ResultVar := [.tmp 6]
theorem cal_channel_queued : Sx.Callee Try.prog f_channel_queued := ⟨_, Try.func38, by kernel_rfl, by kernel_rfl⟩
noncomputable abbrev in_channel_queued (ct : CT) : Ent := .st (inlS tt ct n_channel_queued k_channel_queued rs_channel_queued 60 (Try.f38.body.getD .skip))
theorem in_channel_queued_ok {ct : CT} (h : CTok Try.prog ct) : EntOk Try.prog f_channel_queued (in_channel_queued ct) := inl_ok tt_ok h 60 fn_channel_queued rfl nt_channel_queued rfl cal_channel_queued (by kernel_rfl)
@[match_pattern] abbrev f_sched_Append : Nat := 39
theorem fn_sched_Append : Try.prog.funcs[f_sched_Append]? = some Try.f39 := Try.func39
abbrev n_sched_Append : Nat := 59
theorem nt_sched_Append : Try.f39.ntmps = n_sched_Append := Try.ntmps39
abbrev k_sched_Append : List Nat := [0, 1, 2, 3, 6, 7, 8, 9, 10, 12, 39, 41]
abbrev rs_sched_Append : List ResultVar := [.cell 6 30, .tmp 7]
theorem cal_sched_Append : Sx.Callee Try.prog f_sched_Append := ⟨_, Try.func39, by kernel_rfl, by kernel_rfl⟩
noncomputable abbrev in_sched_Append (ct : CT) : Ent := .st (inlS tt ct n_sched_Append k_sched_Append rs_sched_Append 60 (Try.f39.body.getD .skip))
theorem in_sched_Append_ok {ct : CT} (h : CTok Try.prog ct) : EntOk Try.prog f_sched_Append (in_sched_Append ct) := inl_ok tt_ok h 60 fn_sched_Append rfl nt_sched_Append rfl cal_sched_Append (by kernel_rfl)
@[match_pattern] abbrev f_mem_Mem_Size : Nat := 40
theorem fn_mem_Mem_Size : Try.prog.funcs[f_mem_Mem_Size]? = some Try.f40 := Try.func40
abbrev n_mem_Mem_Size : Nat := 10
theorem nt_mem_Mem_Size : Try.f40.ntmps = n_mem_Mem_Size := Try.ntmps40
abbrev k_mem_Mem_Size : List Nat := [0, 2, 4]
abbrev rs_mem_Mem_Size : List ResultVar := [.tmp 2]
theorem cal_mem_Mem_Size : Sx.Callee Try.prog f_mem_Mem_Size := ⟨_, Try.func40, by kernel_rfl, by kernel_rfl⟩
noncomputable abbrev in_mem_Mem_Size (ct : CT) : Ent := .st (inlS tt ct n_mem_Mem_Size k_mem_Mem_Size rs_mem_Mem_Size 60 (Try.f40.body.getD .skip))
theorem in_mem_Mem_Size_ok {ct : CT} (h : CTok Try.prog ct) : EntOk Try.prog f_mem_Mem_Size (in_mem_Mem_Size ct) := inl_ok tt_ok h 60 fn_mem_Mem_Size rfl nt_mem_Mem_Size rfl cal_mem_Mem_Size (by kernel_rfl)
@[match_pattern] abbrev f_channel_unit_operations : Nat := 41
theorem fn_channel_unit_operations : Try.prog.funcs[f_channel_unit_operations]? = some Try.f41 := Try.func41
abbrev n_channel_unit_operations : Nat := 15
theorem nt_channel_unit_operations : Try.f41.ntmps = n_channel_unit_operations := Try.ntmps41
abbrev k_channel_unit_operations : List Nat := [0, 1, 2]
abbrev rs_channel_unit_operations : List ResultVar := [.tmp 2]
theorem cal_channel_unit_operations : Sx.Callee Try.prog f_channel_unit_operations := ⟨_, Try.func41, by kernel_rfl, by kernel_rfl⟩
noncomputable abbrev in_channel_unit_operations (ct : CT) : Ent := .st (inlS tt ct n_channel_unit_operations k_channel_unit_operations rs_channel_unit_operations 60 (Try.f41.body.getD .skip))
theorem in_channel_unit_operations_ok {ct : CT} (h : CTok Try.prog ct) : EntOk Try.prog f_channel_unit_operations (in_channel_unit_operations ct) := inl_ok tt_ok h 60 fn_channel_unit_operations rfl nt_channel_unit_operations rfl cal_channel_unit_operations (by kernel_rfl)
@[match_pattern] abbrev f_mem_From : Nat := 42
theorem fn_mem_From : Try.prog.funcs[f_mem_From]? = some Try.f42 := Try.func42
abbrev n_mem_From : Nat := 21
theorem nt_mem_From : Try.f42.ntmps = n_mem_From := Try.ntmps42
abbrev k_mem_From : List Nat := [0, 2, 3, 4, 8]
abbrev rs_mem_From : List ResultVar := [.tmp 2, .tmp 3]
theorem cal_mem_From : Sx.Callee Try.prog f_mem_From := ⟨_, Try.func42, by kernel_rfl, by kernel_rfl⟩
noncomputable abbrev in_mem_From (ct : CT) : Ent := .st (inlS tt ct n_mem_From k_mem_From rs_mem_From 60 (Try.f42.body.getD .skip))
theorem in_mem_From_ok {ct : CT} (h : CTok Try.prog ct) : EntOk Try.prog f_mem_From (in_mem_From ct) := inl_ok tt_ok h 60 fn_mem_From rfl nt_mem_From rfl cal_mem_From (by kernel_rfl)
@[match_pattern] abbrev f_bytes_Clone : Nat := 43
theorem fn_bytes_Clone : Try.prog.funcs[f_bytes_Clone]? = some Try.f43 := Try.func43
abbrev n_bytes_Clone : Nat := 8
theorem nt_bytes_Clone : Try.f43.ntmps = n_bytes_Clone := Try.ntmps43
abbrev k_bytes_Clone : List Nat := [0, 2, 4]
abbrev rs_bytes_Clone : List ResultVar := [.tmp 2]
theorem cal_bytes_Clone : Sx.Callee Try.prog f_bytes_Clone := ⟨_, Try.func43, by kernel_rfl, by kernel_rfl⟩
noncomputable abbrev in_bytes_Clone (ct : CT) : Ent := .st (inlS tt ct n_bytes_Clone k_bytes_Clone rs_bytes_Clone 60 (Try.f43.body.getD .skip))
theorem in_bytes_Clone_ok {ct : CT} (h : CTok Try.prog ct) : EntOk Try.prog f_bytes_Clone (in_bytes_Clone ct) := inl_ok tt_ok h 60 fn_bytes_Clone rfl nt_bytes_Clone rfl cal_bytes_Clone (by kernel_rfl)
@[match_pattern] abbrev f_r30_begin : Nat := 44
theorem fn_r30_begin : Try.prog.funcs[f_r30_begin]? = some Try.f44 := Try.func44
abbrev n_r30_begin : Nat := 35
theorem nt_r30_begin : Try.f44.ntmps = n_r30_begin := Try.ntmps44
abbrev k_r30_begin : List Nat := [0, 1, 2, 3, 6, 7, 8, 9, 17, 25, 33]
abbrev rs_r30_begin : List ResultVar := [.tmp 6, .tmp 7]
theorem cal_r30_begin : Sx.Callee Try.prog f_r30_begin := ⟨_, Try.func44, by kernel_rfl, by kernel_rfl⟩
noncomputable abbrev in_r30_begin (ct : CT) : Ent := .st (inlS tt ct n_r30_begin k_r30_begin rs_r30_begin 60 (Try.f44.body.getD .skip))
theorem in_r30_begin_ok {ct : CT} (h : CTok Try.prog ct) : EntOk Try.prog f_r30_begin (in_r30_begin ct) := inl_ok tt_ok h 60 fn_r30_begin rfl nt_r30_begin rfl cal_r30_begin (by kernel_rfl)
@[match_pattern] abbrev f_r30_Waits : Nat := 45
theorem fn_r30_Waits : Try.prog.funcs[f_r30_Waits]? = some Try.f45 := Try.func45
abbrev n_r30_Waits : Nat := 46
theorem nt_r30_Waits : Try.f45.ntmps = n_r30_Waits := Try.ntmps45
abbrev k_r30_Waits : List Nat := [0, 1, 2, 3, 4, 8, 9, 10, 11, 17]
abbrev rs_r30_Waits : List ResultVar := [.cell 8 30, .tmp 9, .tmp 10]
theorem cal_r30_Waits : Sx.Callee Try.prog f_r30_Waits := ⟨_, Try.func45, by kernel_rfl, by kernel_rfl⟩
noncomputable abbrev in_r30_Waits (ct : CT) : Ent := .st (inlS tt ct n_r30_Waits k_r30_Waits rs_r30_Waits 60 (Try.f45.body.getD .skip))
theorem in_r30_Waits_ok {ct : CT} (h : CTok Try.prog ct) : EntOk Try.prog f_r30_Waits (in_r30_Waits ct) := inl_ok tt_ok h 60 fn_r30_Waits rfl nt_r30_Waits rfl cal_r30_Waits (by kernel_rfl)
@[match_pattern] abbrev f_r29_Space : Nat := 46
theorem fn_r29_Space : Try.prog.funcs[f_r29_Space]? = some Try.f46 := Try.func46
abbrev n_r29_Space : Nat := 9
theorem nt_r29_Space : Try.f46.ntmps = n_r29_Space := Try.ntmps46
abbrev k_r29_Space : List Nat := [0, 2, 3]
abbrev rs_r29_Space : List ResultVar := [.tmp 2, .tmp 3]
theorem cal_r29_Space : Sx.Callee Try.prog f_r29_Space := ⟨_, Try.func46, by kernel_rfl, by kernel_rfl⟩
noncomputable abbrev in_r29_Space (ct : CT) : Ent := .st (inlS tt ct n_r29_Space k_r29_Space rs_r29_Space 60 (Try.f46.body.getD .skip))
theorem in_r29_Space_ok {ct : CT} (h : CTok Try.prog ct) : EntOk Try.prog f_r29_Space (in_r29_Space ct) := inl_ok tt_ok h 60 fn_r29_Space rfl nt_r29_Space rfl cal_r29_Space (by kernel_rfl)
@[match_pattern] abbrev f_r29_Valid : Nat := 47
theorem fn_r29_Valid : Try.prog.funcs[f_r29_Valid]? = some Try.f47 := Try.func47
abbrev n_r29_Valid : Nat := 19
theorem nt_r29_Valid : Try.f47.ntmps = n_r29_Valid := Try.ntmps47
abbrev k_r29_Valid : List Nat := [0, 1, 4]
abbrev rs_r29_Valid : List ResultVar := [.tmp 4]
theorem cal_r29_Valid : Sx.Callee Try.prog f_r29_Valid := ⟨_, Try.func47, by kernel_rfl, by kernel_rfl⟩
noncomputable abbrev in_r29_Valid (ct : CT) : Ent := .st (inlS tt ct n_r29_Valid k_r29_Valid rs_r29_Valid 60 (Try.f47.body.getD .skip))
theorem in_r29_Valid_ok {ct : CT} (h : CTok Try.prog ct) : EntOk Try.prog f_r29_Valid (in_r29_Valid ct) := inl_ok tt_ok h 60 fn_r29_Valid rfl nt_r29_Valid rfl cal_r29_Valid (by kernel_rfl)
@[match_pattern] abbrev f_r30_copied : Nat := 48
theorem fn_r30_copied : Try.prog.funcs[f_r30_copied]? = some Try.f48 := Try.func48
abbrev n_r30_copied : Nat := 64
theorem nt_r30_copied : Try.f48.ntmps = n_r30_copied := Try.ntmps48
abbrev k_r30_copied : List Nat := [0, 1, 2, 3, 8, 9, 10, 11, 12, 19, 22, 37, 47]
abbrev rs_r30_copied : List ResultVar := [.tmp 8, .tmp 9]
theorem cal_r30_copied : Sx.Callee Try.prog f_r30_copied := ⟨_, Try.func48, by kernel_rfl, by kernel_rfl⟩
noncomputable abbrev in_r30_copied (ct : CT) : Ent := .st (inlS tt ct n_r30_copied k_r30_copied rs_r30_copied 60 (Try.f48.body.getD .skip))
theorem in_r30_copied_ok {ct : CT} (h : CTok Try.prog ct) : EntOk Try.prog f_r30_copied (in_r30_copied ct) := inl_ok tt_ok h 60 fn_r30_copied rfl nt_r30_copied rfl cal_r30_copied (by kernel_rfl)
@[match_pattern] abbrev f_r29_Word : Nat := 49
theorem fn_r29_Word : Try.prog.funcs[f_r29_Word]? = some Try.f49 := Try.func49
abbrev n_r29_Word : Nat := 19
theorem nt_r29_Word : Try.f49.ntmps = n_r29_Word := Try.ntmps49
abbrev k_r29_Word : List Nat := [0, 1, 2, 6, 7]
abbrev rs_r29_Word : List ResultVar := [.tmp 6]
theorem cal_r29_Word : Sx.Callee Try.prog f_r29_Word := ⟨_, Try.func49, by kernel_rfl, by kernel_rfl⟩
noncomputable abbrev in_r29_Word (ct : CT) : Ent := .st (inlS tt ct n_r29_Word k_r29_Word rs_r29_Word 60 (Try.f49.body.getD .skip))
theorem in_r29_Word_ok {ct : CT} (h : CTok Try.prog ct) : EntOk Try.prog f_r29_Word (in_r29_Word ct) := inl_ok tt_ok h 60 fn_r29_Word rfl nt_r29_Word rfl cal_r29_Word (by kernel_rfl)
@[match_pattern] abbrev f_r30_finishes : Nat := 50
theorem fn_r30_finishes : Try.prog.funcs[f_r30_finishes]? = some Try.f50 := Try.func50
abbrev n_r30_finishes : Nat := 38
theorem nt_r30_finishes : Try.f50.ntmps = n_r30_finishes := Try.ntmps50
abbrev k_r30_finishes : List Nat := [0, 1, 2, 3, 4, 8, 9, 10, 11, 13, 29]
abbrev rs_r30_finishes : List ResultVar := [.cell 8 30, .tmp 9, .tmp 10]
theorem cal_r30_finishes : Sx.Callee Try.prog f_r30_finishes := ⟨_, Try.func50, by kernel_rfl, by kernel_rfl⟩
noncomputable abbrev in_r30_finishes (ct : CT) : Ent := .st (inlS tt ct n_r30_finishes k_r30_finishes rs_r30_finishes 60 (Try.f50.body.getD .skip))
theorem in_r30_finishes_ok {ct : CT} (h : CTok Try.prog ct) : EntOk Try.prog f_r30_finishes (in_r30_finishes ct) := inl_ok tt_ok h 60 fn_r30_finishes rfl nt_r30_finishes rfl cal_r30_finishes (by kernel_rfl)
@[match_pattern] abbrev f_r29_Set : Nat := 51
theorem fn_r29_Set : Try.prog.funcs[f_r29_Set]? = some Try.f51 := Try.func51
abbrev n_r29_Set : Nat := 22
theorem nt_r29_Set : Try.f51.ntmps = n_r29_Set := Try.ntmps51
abbrev k_r29_Set : List Nat := [0, 1, 2, 3, 8, 9]
abbrev rs_r29_Set : List ResultVar := [.tmp 8]
theorem cal_r29_Set : Sx.Callee Try.prog f_r29_Set := ⟨_, Try.func51, by kernel_rfl, by kernel_rfl⟩
noncomputable abbrev in_r29_Set (ct : CT) : Ent := .st (inlS tt ct n_r29_Set k_r29_Set rs_r29_Set 60 (Try.f51.body.getD .skip))
theorem in_r29_Set_ok {ct : CT} (h : CTok Try.prog ct) : EntOk Try.prog f_r29_Set (in_r29_Set ct) := inl_ok tt_ok h 60 fn_r29_Set rfl nt_r29_Set rfl cal_r29_Set (by kernel_rfl)
@[match_pattern] abbrev f_r29_Append : Nat := 52
theorem fn_r29_Append : Try.prog.funcs[f_r29_Append]? = some Try.f52 := Try.func52
abbrev n_r29_Append : Nat := 52
theorem nt_r29_Append : Try.f52.ntmps = n_r29_Append := Try.ntmps52
abbrev k_r29_Append : List Nat := [0, 1, 2, 3, 6, 7, 8, 9, 10, 19, 26, 36]
abbrev rs_r29_Append : List ResultVar := [.cell 6 30, .tmp 7, .tmp 8]
theorem cal_r29_Append : Sx.Callee Try.prog f_r29_Append := ⟨_, Try.func52, by kernel_rfl, by kernel_rfl⟩
noncomputable abbrev in_r29_Append (ct : CT) : Ent := .st (inlS tt ct n_r29_Append k_r29_Append rs_r29_Append 60 (Try.f52.body.getD .skip))
theorem in_r29_Append_ok {ct : CT} (h : CTok Try.prog ct) : EntOk Try.prog f_r29_Append (in_r29_Append ct) := inl_ok tt_ok h 60 fn_r29_Append rfl nt_r29_Append rfl cal_r29_Append (by kernel_rfl)
@[match_pattern] abbrev f_mem_Mem_none : Nat := 53
theorem fn_mem_Mem_none : Try.prog.funcs[f_mem_Mem_none]? = some Try.f53 := Try.func53
abbrev n_mem_Mem_none : Nat := 13
theorem nt_mem_Mem_none : Try.f53.ntmps = n_mem_Mem_none := Try.ntmps53
abbrev k_mem_Mem_none : List Nat := [0, 2]
abbrev rs_mem_Mem_none : List ResultVar := [.tmp 2]
theorem cal_mem_Mem_none : Sx.Callee Try.prog f_mem_Mem_none := ⟨_, Try.func53, by kernel_rfl, by kernel_rfl⟩
noncomputable abbrev in_mem_Mem_none (ct : CT) : Ent := .st (inlS tt ct n_mem_Mem_none k_mem_Mem_none rs_mem_Mem_none 60 (Try.f53.body.getD .skip))
theorem in_mem_Mem_none_ok {ct : CT} (h : CTok Try.prog ct) : EntOk Try.prog f_mem_Mem_none (in_mem_Mem_none ct) := inl_ok tt_ok h 60 fn_mem_Mem_none rfl nt_mem_Mem_none rfl cal_mem_Mem_none (by kernel_rfl)
@[match_pattern] abbrev f_r30_short : Nat := 54
theorem fn_r30_short : Try.prog.funcs[f_r30_short]? = some Try.f54 := Try.func54
abbrev n_r30_short : Nat := 55
theorem nt_r30_short : Try.f54.ntmps = n_r30_short := Try.ntmps54
abbrev k_r30_short : List Nat := [0, 1, 2, 3, 6, 7, 8, 9, 10, 11, 20, 33, 49]
abbrev rs_r30_short : List ResultVar := [.cell 6 30, .tmp 7, .tmp 8]
theorem cal_r30_short : Sx.Callee Try.prog f_r30_short := ⟨_, Try.func54, by kernel_rfl, by kernel_rfl⟩
noncomputable abbrev in_r30_short (ct : CT) : Ent := .st (inlS tt ct n_r30_short k_r30_short rs_r30_short 60 (Try.f54.body.getD .skip))
theorem in_r30_short_ok {ct : CT} (h : CTok Try.prog ct) : EntOk Try.prog f_r30_short (in_r30_short ct) := inl_ok tt_ok h 60 fn_r30_short rfl nt_r30_short rfl cal_r30_short (by kernel_rfl)
@[match_pattern] abbrev f_r03_SetWord : Nat := 55
theorem fn_r03_SetWord : Try.prog.funcs[f_r03_SetWord]? = some Try.f55 := Try.func55
abbrev n_r03_SetWord : Nat := 25
theorem nt_r03_SetWord : Try.f55.ntmps = n_r03_SetWord := Try.ntmps55
abbrev k_r03_SetWord : List Nat := [0, 1, 2, 6, 7, 8, 13]
abbrev rs_r03_SetWord : List ResultVar := [.tmp 6, .tmp 7]
theorem cal_r03_SetWord : Sx.Callee Try.prog f_r03_SetWord := ⟨_, Try.func55, by kernel_rfl, by kernel_rfl⟩
noncomputable abbrev in_r03_SetWord (ct : CT) : Ent := .st (inlS tt ct n_r03_SetWord k_r03_SetWord rs_r03_SetWord 60 (Try.f55.body.getD .skip))
theorem in_r03_SetWord_ok {ct : CT} (h : CTok Try.prog ct) : EntOk Try.prog f_r03_SetWord (in_r03_SetWord ct) := inl_ok tt_ok h 60 fn_r03_SetWord rfl nt_r03_SetWord rfl cal_r03_SetWord (by kernel_rfl)
@[match_pattern] abbrev f_mem_Mem_span : Nat := 56
theorem fn_mem_Mem_span : Try.prog.funcs[f_mem_Mem_span]? = some Try.f56 := Try.func56
abbrev n_mem_Mem_span : Nat := 44
theorem nt_mem_Mem_span : Try.f56.ntmps = n_mem_Mem_span := Try.ntmps56
abbrev k_mem_Mem_span : List Nat := [0, 1, 2, 6, 7, 8, 10, 31]
abbrev rs_mem_Mem_span : List ResultVar := [.tmp 6, .tmp 7]
theorem cal_mem_Mem_span : Sx.Callee Try.prog f_mem_Mem_span := ⟨_, Try.func56, by kernel_rfl, by kernel_rfl⟩
noncomputable abbrev in_mem_Mem_span (ct : CT) : Ent := .st (inlS tt ct n_mem_Mem_span k_mem_Mem_span rs_mem_Mem_span 60 (Try.f56.body.getD .skip))
theorem in_mem_Mem_span_ok {ct : CT} (h : CTok Try.prog ct) : EntOk Try.prog f_mem_Mem_span (in_mem_Mem_span ct) := inl_ok tt_ok h 60 fn_mem_Mem_span rfl nt_mem_Mem_span rfl cal_mem_Mem_span (by kernel_rfl)
@[match_pattern] abbrev f_mem_may : Nat := 57
theorem fn_mem_may : Try.prog.funcs[f_mem_may]? = some Try.f57 := Try.func57
abbrev n_mem_may : Nat := 14
theorem nt_mem_may : Try.f57.ntmps = n_mem_may := Try.ntmps57
abbrev k_mem_may : List Nat := [0, 2]
abbrev rs_mem_may : List ResultVar := [.tmp 2]
theorem cal_mem_may : Sx.Callee Try.prog f_mem_may := ⟨_, Try.func57, by kernel_rfl, by kernel_rfl⟩
noncomputable abbrev in_mem_may (ct : CT) : Ent := .st (inlS tt ct n_mem_may k_mem_may rs_mem_may 60 (Try.f57.body.getD .skip))
theorem in_mem_may_ok {ct : CT} (h : CTok Try.prog ct) : EntOk Try.prog f_mem_may (in_mem_may ct) := inl_ok tt_ok h 60 fn_mem_may rfl nt_mem_may rfl cal_mem_may (by kernel_rfl)
@[match_pattern] abbrev f_channel_internal : Nat := 58
theorem fn_channel_internal : Try.prog.funcs[f_channel_internal]? = some Try.f58 := Try.func58
abbrev n_channel_internal : Nat := 6
theorem nt_channel_internal : Try.f58.ntmps = n_channel_internal := Try.ntmps58
abbrev k_channel_internal : List Nat := [0, 2]
abbrev rs_channel_internal : List ResultVar := [.tmp 2]
theorem cal_channel_internal : Sx.Callee Try.prog f_channel_internal := ⟨_, Try.func58, by kernel_rfl, by kernel_rfl⟩
noncomputable abbrev in_channel_internal (ct : CT) : Ent := .st (inlS tt ct n_channel_internal k_channel_internal rs_channel_internal 60 (Try.f58.body.getD .skip))
theorem in_channel_internal_ok {ct : CT} (h : CTok Try.prog ct) : EntOk Try.prog f_channel_internal (in_channel_internal ct) := inl_ok tt_ok h 60 fn_channel_internal rfl nt_channel_internal rfl cal_channel_internal (by kernel_rfl)
@[match_pattern] abbrev f_sched_Wait : Nat := 59
theorem fn_sched_Wait : Try.prog.funcs[f_sched_Wait]? = some Try.f59 := Try.func59
abbrev n_sched_Wait : Nat := 31
theorem nt_sched_Wait : Try.f59.ntmps = n_sched_Wait := Try.ntmps59
abbrev k_sched_Wait : List Nat := [0, 1, 2, 4, 5, 6, 10, 15]
abbrev rs_sched_Wait : List ResultVar := [.cell 4 30, .tmp 5]
theorem cal_sched_Wait : Sx.Callee Try.prog f_sched_Wait := ⟨_, Try.func59, by kernel_rfl, by kernel_rfl⟩
noncomputable abbrev in_sched_Wait (ct : CT) : Ent := .st (inlS tt ct n_sched_Wait k_sched_Wait rs_sched_Wait 60 (Try.f59.body.getD .skip))
theorem in_sched_Wait_ok {ct : CT} (h : CTok Try.prog ct) : EntOk Try.prog f_sched_Wait (in_sched_Wait ct) := inl_ok tt_ok h 60 fn_sched_Wait rfl nt_sched_Wait rfl cal_sched_Wait (by kernel_rfl)
@[match_pattern] abbrev f_mem_Mem_Move : Nat := 60
theorem fn_mem_Mem_Move : Try.prog.funcs[f_mem_Mem_Move]? = some Try.f60 := Try.func60
abbrev n_mem_Mem_Move : Nat := 40
theorem nt_mem_Mem_Move : Try.f60.ntmps = n_mem_Mem_Move := Try.ntmps60
abbrev k_mem_Mem_Move : List Nat := [0, 1, 2, 3, 8, 9, 10, 11, 13, 15, 26]
abbrev rs_mem_Mem_Move : List ResultVar := [.tmp 8]
theorem cal_mem_Mem_Move : Sx.Callee Try.prog f_mem_Mem_Move := ⟨_, Try.func60, by kernel_rfl, by kernel_rfl⟩
noncomputable abbrev in_mem_Mem_Move (ct : CT) : Ent := .st (inlS tt ct n_mem_Mem_Move k_mem_Mem_Move rs_mem_Mem_Move 60 (Try.f60.body.getD .skip))
theorem in_mem_Mem_Move_ok {ct : CT} (h : CTok Try.prog ct) : EntOk Try.prog f_mem_Mem_Move (in_mem_Mem_Move ct) := inl_ok tt_ok h 60 fn_mem_Mem_Move rfl nt_mem_Mem_Move rfl cal_mem_Mem_Move (by kernel_rfl)
@[match_pattern] abbrev f_sched_none : Nat := 61
theorem fn_sched_none : Try.prog.funcs[f_sched_none]? = some Try.f61 := Try.func61
abbrev n_sched_none : Nat := 6
theorem nt_sched_none : Try.f61.ntmps = n_sched_none := Try.ntmps61
abbrev k_sched_none : List Nat := [0, 2]
abbrev rs_sched_none : List ResultVar := [.tmp 2]
theorem cal_sched_none : Sx.Callee Try.prog f_sched_none := ⟨_, Try.func61, by kernel_rfl, by kernel_rfl⟩
noncomputable abbrev in_sched_none (ct : CT) : Ent := .st (inlS tt ct n_sched_none k_sched_none rs_sched_none 60 (Try.f61.body.getD .skip))
theorem in_sched_none_ok {ct : CT} (h : CTok Try.prog ct) : EntOk Try.prog f_sched_none (in_sched_none ct) := inl_ok tt_ok h 60 fn_sched_none rfl nt_sched_none rfl cal_sched_none (by kernel_rfl)
@[match_pattern] abbrev f_sched_valid : Nat := 62
theorem fn_sched_valid : Try.prog.funcs[f_sched_valid]? = some Try.f62 := Try.func62
abbrev n_sched_valid : Nat := 23
theorem nt_sched_valid : Try.f62.ntmps = n_sched_valid := Try.ntmps62
abbrev k_sched_valid : List Nat := [0, 1, 4, 5]
abbrev rs_sched_valid : List ResultVar := [.tmp 4]
theorem cal_sched_valid : Sx.Callee Try.prog f_sched_valid := ⟨_, Try.func62, by kernel_rfl, by kernel_rfl⟩
noncomputable abbrev in_sched_valid (ct : CT) : Ent := .st (inlS tt ct n_sched_valid k_sched_valid rs_sched_valid 60 (Try.f62.body.getD .skip))
theorem in_sched_valid_ok {ct : CT} (h : CTok Try.prog ct) : EntOk Try.prog f_sched_valid (in_sched_valid ct) := inl_ok tt_ok h 60 fn_sched_valid rfl nt_sched_valid rfl cal_sched_valid (by kernel_rfl)
@[match_pattern] abbrev f_channel_unit_in : Nat := 63
theorem fn_channel_unit_in : Try.prog.funcs[f_channel_unit_in]? = some Try.f63 := Try.func63
abbrev n_channel_unit_in : Nat := 20
theorem nt_channel_unit_in : Try.f63.ntmps = n_channel_unit_in := Try.ntmps63
abbrev k_channel_unit_in : List Nat := [0, 1, 2, 3]
abbrev rs_channel_unit_in : List ResultVar := [.cell 2 30, .tmp 3]
theorem cal_channel_unit_in : Sx.Callee Try.prog f_channel_unit_in := ⟨_, Try.func63, by kernel_rfl, by kernel_rfl⟩
noncomputable abbrev in_channel_unit_in (ct : CT) : Ent := .st (inlS tt ct n_channel_unit_in k_channel_unit_in rs_channel_unit_in 60 (Try.f63.body.getD .skip))
theorem in_channel_unit_in_ok {ct : CT} (h : CTok Try.prog ct) : EntOk Try.prog f_channel_unit_in (in_channel_unit_in ct) := inl_ok tt_ok h 60 fn_channel_unit_in rfl nt_channel_unit_in rfl cal_channel_unit_in (by kernel_rfl)
@[match_pattern] abbrev f_channel_unit_out : Nat := 64
theorem fn_channel_unit_out : Try.prog.funcs[f_channel_unit_out]? = some Try.f64 := Try.func64
abbrev n_channel_unit_out : Nat := 20
theorem nt_channel_unit_out : Try.f64.ntmps = n_channel_unit_out := Try.ntmps64
abbrev k_channel_unit_out : List Nat := [0, 1, 2, 3]
abbrev rs_channel_unit_out : List ResultVar := [.cell 2 30, .tmp 3]
theorem cal_channel_unit_out : Sx.Callee Try.prog f_channel_unit_out := ⟨_, Try.func64, by kernel_rfl, by kernel_rfl⟩
noncomputable abbrev in_channel_unit_out (ct : CT) : Ent := .st (inlS tt ct n_channel_unit_out k_channel_unit_out rs_channel_unit_out 60 (Try.f64.body.getD .skip))
theorem in_channel_unit_out_ok {ct : CT} (h : CTok Try.prog ct) : EntOk Try.prog f_channel_unit_out (in_channel_unit_out ct) := inl_ok tt_ok h 60 fn_channel_unit_out rfl nt_channel_unit_out rfl cal_channel_unit_out (by kernel_rfl)
@[match_pattern] abbrev f_channel_unit_outbyte : Nat := 65
theorem fn_channel_unit_outbyte : Try.prog.funcs[f_channel_unit_outbyte]? = some Try.f65 := Try.func65
abbrev n_channel_unit_outbyte : Nat := 8
theorem nt_channel_unit_outbyte : Try.f65.ntmps = n_channel_unit_outbyte := Try.ntmps65
abbrev k_channel_unit_outbyte : List Nat := [0, 1, 2, 3]
abbrev rs_channel_unit_outbyte : List ResultVar := [.cell 2 30, .tmp 3]
theorem cal_channel_unit_outbyte : Sx.Callee Try.prog f_channel_unit_outbyte := ⟨_, Try.func65, by kernel_rfl, by kernel_rfl⟩
noncomputable abbrev in_channel_unit_outbyte (ct : CT) : Ent := .st (inlS tt ct n_channel_unit_outbyte k_channel_unit_outbyte rs_channel_unit_outbyte 60 (Try.f65.body.getD .skip))
theorem in_channel_unit_outbyte_ok {ct : CT} (h : CTok Try.prog ct) : EntOk Try.prog f_channel_unit_outbyte (in_channel_unit_outbyte ct) := inl_ok tt_ok h 60 fn_channel_unit_outbyte rfl nt_channel_unit_outbyte rfl cal_channel_unit_outbyte (by kernel_rfl)
@[match_pattern] abbrev f_channel_unit_outword : Nat := 66
theorem fn_channel_unit_outword : Try.prog.funcs[f_channel_unit_outword]? = some Try.f66 := Try.func66
abbrev n_channel_unit_outword : Nat := 8
theorem nt_channel_unit_outword : Try.f66.ntmps = n_channel_unit_outword := Try.ntmps66
abbrev k_channel_unit_outword : List Nat := [0, 1, 2, 3]
abbrev rs_channel_unit_outword : List ResultVar := [.cell 2 30, .tmp 3]
theorem cal_channel_unit_outword : Sx.Callee Try.prog f_channel_unit_outword := ⟨_, Try.func66, by kernel_rfl, by kernel_rfl⟩
noncomputable abbrev in_channel_unit_outword (ct : CT) : Ent := .st (inlS tt ct n_channel_unit_outword k_channel_unit_outword rs_channel_unit_outword 60 (Try.f66.body.getD .skip))
theorem in_channel_unit_outword_ok {ct : CT} (h : CTok Try.prog ct) : EntOk Try.prog f_channel_unit_outword (in_channel_unit_outword ct) := inl_ok tt_ok h 60 fn_channel_unit_outword rfl nt_channel_unit_outword rfl cal_channel_unit_outword (by kernel_rfl)
@[match_pattern] abbrev f_channel_unit_resetch : Nat := 67
theorem fn_channel_unit_resetch : Try.prog.funcs[f_channel_unit_resetch]? = some Try.f67 := Try.func67
abbrev n_channel_unit_resetch : Nat := 32
theorem nt_channel_unit_resetch : Try.f67.ntmps = n_channel_unit_resetch := Try.ntmps67
abbrev k_channel_unit_resetch : List Nat := [0, 1, 2, 3, 4, 5, 18]
abbrev rs_channel_unit_resetch : List ResultVar := [.cell 2 30, .tmp 3]
theorem cal_channel_unit_resetch : Sx.Callee Try.prog f_channel_unit_resetch := ⟨_, Try.func67, by kernel_rfl, by kernel_rfl⟩
noncomputable abbrev in_channel_unit_resetch (ct : CT) : Ent := .st (inlS tt ct n_channel_unit_resetch k_channel_unit_resetch rs_channel_unit_resetch 60 (Try.f67.body.getD .skip))
theorem in_channel_unit_resetch_ok {ct : CT} (h : CTok Try.prog ct) : EntOk Try.prog f_channel_unit_resetch (in_channel_unit_resetch ct) := inl_ok tt_ok h 60 fn_channel_unit_resetch rfl nt_channel_unit_resetch rfl cal_channel_unit_resetch (by kernel_rfl)
@[match_pattern] abbrev f_r30_Internal : Nat := 68
theorem fn_r30_Internal : Try.prog.funcs[f_r30_Internal]? = some Try.f68 := Try.func68
abbrev n_r30_Internal : Nat := 10
theorem nt_r30_Internal : Try.f68.ntmps = n_r30_Internal := Try.ntmps68
abbrev k_r30_Internal : List Nat := [0, 2]
abbrev rs_r30_Internal : List ResultVar := [.tmp 2]
theorem cal_r30_Internal : Sx.Callee Try.prog f_r30_Internal := ⟨_, Try.func68, by kernel_rfl, by kernel_rfl⟩
noncomputable abbrev in_r30_Internal (ct : CT) : Ent := .st (inlS tt ct n_r30_Internal k_r30_Internal rs_r30_Internal 60 (Try.f68.body.getD .skip))
theorem in_r30_Internal_ok {ct : CT} (h : CTok Try.prog ct) : EntOk Try.prog f_r30_Internal (in_r30_Internal ct) := inl_ok tt_ok h 60 fn_r30_Internal rfl nt_r30_Internal rfl cal_r30_Internal (by kernel_rfl)
@[match_pattern] abbrev f_r03_Word : Nat := 69
theorem fn_r03_Word : Try.prog.funcs[f_r03_Word]? = some Try.f69 := Try.func69
abbrev n_r03_Word : Nat := 50
theorem nt_r03_Word : Try.f69.ntmps = n_r03_Word := Try.ntmps69
abbrev k_r03_Word : List Nat := [0, 1, 4, 5, 6, 7, 12]
abbrev rs_r03_Word : List ResultVar := [.tmp 4, .tmp 5]
theorem cal_r03_Word : Sx.Callee Try.prog f_r03_Word := ⟨_, Try.func69, by kernel_rfl, by kernel_rfl⟩
noncomputable abbrev in_r03_Word (ct : CT) : Ent := .st (inlS tt ct n_r03_Word k_r03_Word rs_r03_Word 60 (Try.f69.body.getD .skip))
theorem in_r03_Word_ok {ct : CT} (h : CTok Try.prog ct) : EntOk Try.prog f_r03_Word (in_r03_Word ct) := inl_ok tt_ok h 60 fn_r03_Word rfl nt_r03_Word rfl cal_r03_Word (by kernel_rfl)
@[match_pattern] abbrev f_r29_Wait : Nat := 70
theorem fn_r29_Wait : Try.prog.funcs[f_r29_Wait]? = some Try.f70 := Try.func70
abbrev n_r29_Wait : Nat := 27
theorem nt_r29_Wait : Try.f70.ntmps = n_r29_Wait := Try.ntmps70
abbrev k_r29_Wait : List Nat := [0, 1, 2, 4, 5, 6, 9, 16]
abbrev rs_r29_Wait : List ResultVar := [.cell 4 30, .tmp 5, .tmp 6]
theorem cal_r29_Wait : Sx.Callee Try.prog f_r29_Wait := ⟨_, Try.func70, by kernel_rfl, by kernel_rfl⟩
noncomputable abbrev in_r29_Wait (ct : CT) : Ent := .st (inlS tt ct n_r29_Wait k_r29_Wait rs_r29_Wait 60 (Try.f70.body.getD .skip))
theorem in_r29_Wait_ok {ct : CT} (h : CTok Try.prog ct) : EntOk Try.prog f_r29_Wait (in_r29_Wait ct) := inl_ok tt_ok h 60 fn_r29_Wait rfl nt_r29_Wait rfl cal_r29_Wait (by kernel_rfl)
@[match_pattern] abbrev f_r03_Index : Nat := 71
theorem fn_r03_Index : Try.prog.funcs[f_r03_Index]? = some Try.f71 := Try.func71
abbrev n_r03_Index : Nat := 6
theorem nt_r03_Index : Try.f71.ntmps = n_r03_Index := Try.ntmps71
abbrev k_r03_Index : List Nat := [0, 2]
abbrev rs_r03_Index : List ResultVar := [.tmp 2]
theorem cal_r03_Index : Sx.Callee Try.prog f_r03_Index := ⟨_, Try.func71, by kernel_rfl, by kernel_rfl⟩
noncomputable abbrev in_r03_Index (ct : CT) : Ent := .st (inlS tt ct n_r03_Index k_r03_Index rs_r03_Index 60 (Try.f71.body.getD .skip))
theorem in_r03_Index_ok {ct : CT} (h : CTok Try.prog ct) : EntOk Try.prog f_r03_Index (in_r03_Index ct) := inl_ok tt_ok h 60 fn_r03_Index rfl nt_r03_Index rfl cal_r03_Index (by kernel_rfl)
@[match_pattern] abbrev f_r03_Lies : Nat := 72
theorem fn_r03_Lies : Try.prog.funcs[f_r03_Lies]? = some Try.f72 := Try.func72
abbrev n_r03_Lies : Nat := 24
theorem nt_r03_Lies : Try.f72.ntmps = n_r03_Lies := Try.ntmps72
abbrev k_r03_Lies : List Nat := [0, 1, 2, 6, 7]
abbrev rs_r03_Lies : List ResultVar := [.tmp 6]
theorem cal_r03_Lies : Sx.Callee Try.prog f_r03_Lies := ⟨_, Try.func72, by kernel_rfl, by kernel_rfl⟩
noncomputable abbrev in_r03_Lies (ct : CT) : Ent := .st (inlS tt ct n_r03_Lies k_r03_Lies rs_r03_Lies 60 (Try.f72.body.getD .skip))
theorem in_r03_Lies_ok {ct : CT} (h : CTok Try.prog ct) : EntOk Try.prog f_r03_Lies (in_r03_Lies ct) := inl_ok tt_ok h 60 fn_r03_Lies rfl nt_r03_Lies rfl cal_r03_Lies (by kernel_rfl)
@[match_pattern] abbrev f_r03_put : Nat := 73
theorem fn_r03_put : Try.prog.funcs[f_r03_put]? = some Try.f73 := Try.func73
abbrev n_r03_put : Nat := 24
theorem nt_r03_put : Try.f73.ntmps = n_r03_put := Try.ntmps73
abbrev k_r03_put : List Nat := [0, 1, 2, 6, 7]
abbrev rs_r03_put : List ResultVar := [.tmp 6]
theorem cal_r03_put : Sx.Callee Try.prog f_r03_put := ⟨_, Try.func73, by kernel_rfl, by kernel_rfl⟩
noncomputable abbrev in_r03_put (ct : CT) : Ent := .st (inlS tt ct n_r03_put k_r03_put rs_r03_put 60 (Try.f73.body.getD .skip))
theorem in_r03_put_ok {ct : CT} (h : CTok Try.prog ct) : EntOk Try.prog f_r03_put (in_r03_put ct) := inl_ok tt_ok h 60 fn_r03_put rfl nt_r03_put rfl cal_r03_put (by kernel_rfl)
@[match_pattern] abbrev f_r03_Four : Nat := 74
theorem fn_r03_Four : Try.prog.funcs[f_r03_Four]? = some Try.f74 := Try.func74
abbrev n_r03_Four : Nat := 18
theorem nt_r03_Four : Try.f74.ntmps = n_r03_Four := Try.ntmps74
abbrev k_r03_Four : List Nat := [0, 2, 3]
abbrev rs_r03_Four : List ResultVar := [.tmp 2]
theorem cal_r03_Four : Sx.Callee Try.prog f_r03_Four := ⟨_, Try.func74, by kernel_rfl, by kernel_rfl⟩
noncomputable abbrev in_r03_Four (ct : CT) : Ent := .st (inlS tt ct n_r03_Four k_r03_Four rs_r03_Four 60 (Try.f74.body.getD .skip))
theorem in_r03_Four_ok {ct : CT} (h : CTok Try.prog ct) : EntOk Try.prog f_r03_Four (in_r03_Four ct) := inl_ok tt_ok h 60 fn_r03_Four rfl nt_r03_Four rfl cal_r03_Four (by kernel_rfl)
@[match_pattern] abbrev f_sched_nobody : Nat := 75
theorem fn_sched_nobody : Try.prog.funcs[f_sched_nobody]? = some Try.f75 := Try.func75
abbrev n_sched_nobody : Nat := 13
theorem nt_sched_nobody : Try.f75.ntmps = n_sched_nobody := Try.ntmps75
abbrev k_sched_nobody : List Nat := [0, 1, 2]
abbrev rs_sched_nobody : List ResultVar := [.cell 2 30]
theorem cal_sched_nobody : Sx.Callee Try.prog f_sched_nobody := ⟨_, Try.func75, by kernel_rfl, by kernel_rfl⟩
noncomputable abbrev in_sched_nobody (ct : CT) : Ent := .st (inlS tt ct n_sched_nobody k_sched_nobody rs_sched_nobody 60 (Try.f75.body.getD .skip))
theorem in_sched_nobody_ok {ct : CT} (h : CTok Try.prog ct) : EntOk Try.prog f_sched_nobody (in_sched_nobody ct) := inl_ok tt_ok h 60 fn_sched_nobody rfl nt_sched_nobody rfl cal_sched_nobody (by kernel_rfl)
@[match_pattern] abbrev f_channel_unit_short : Nat := 76
theorem fn_channel_unit_short : Try.prog.funcs[f_channel_unit_short]? = some Try.f76 := Try.func76
abbrev n_channel_unit_short : Nat := 69
theorem nt_channel_unit_short : Try.f76.ntmps = n_channel_unit_short := Try.ntmps76
abbrev k_channel_unit_short : List Nat := [0, 1, 2, 4, 5, 6, 7, 8, 19, 31, 59]
abbrev rs_channel_unit_short : List ResultVar := [.cell 4 30, .tmp 5]
theorem cal_channel_unit_short : Sx.Callee Try.prog f_channel_unit_short := ⟨_, Try.func76, by kernel_rfl, by kernel_rfl⟩
noncomputable abbrev in_channel_unit_short (ct : CT) : Ent := .st (inlS tt ct n_channel_unit_short k_channel_unit_short rs_channel_unit_short 60 (Try.f76.body.getD .skip))
theorem in_channel_unit_short_ok {ct : CT} (h : CTok Try.prog ct) : EntOk Try.prog f_channel_unit_short (in_channel_unit_short ct) := inl_ok tt_ok h 60 fn_channel_unit_short rfl nt_channel_unit_short rfl cal_channel_unit_short (by kernel_rfl)
@[match_pattern] abbrev f_r29_Nobody : Nat := 77
theorem fn_r29_Nobody : Try.prog.funcs[f_r29_Nobody]? = some Try.f77 := Try.func77
abbrev n_r29_Nobody : Nat := 13
theorem nt_r29_Nobody : Try.f77.ntmps = n_r29_Nobody := Try.ntmps77
abbrev k_r29_Nobody : List Nat := [0, 1, 2]
abbrev rs_r29_Nobody : List ResultVar := [.cell 2 30]
theorem cal_r29_Nobody : Sx.Callee Try.prog f_r29_Nobody := ⟨_, Try.func77, by kernel_rfl, by kernel_rfl⟩
noncomputable abbrev in_r29_Nobody (ct : CT) : Ent := .st (inlS tt ct n_r29_Nobody k_r29_Nobody rs_r29_Nobody 60 (Try.f77.body.getD .skip))
theorem in_r29_Nobody_ok {ct : CT} (h : CTok Try.prog ct) : EntOk Try.prog f_r29_Nobody (in_r29_Nobody ct) := inl_ok tt_ok h 60 fn_r29_Nobody rfl nt_r29_Nobody rfl cal_r29_Nobody (by kernel_rfl)
end Go.Proofs
