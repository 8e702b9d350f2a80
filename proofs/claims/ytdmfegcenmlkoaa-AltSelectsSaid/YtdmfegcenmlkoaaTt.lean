/- Types, slots and numbers of this seat's functions (printed by a program). -/
import Derived.Test.YtdmfegcenmlkoaaSxC
import Derived.Test.YtdmfegcenmlkoaaProg

namespace Go.Proofs
open Go Go.Sx
def ti2 : TI := { size := 1, zv := .int .i64 0, agg := false, kd := .int .i64 }
theorem tok2 : TIok Try.prog 2 ti2 := ⟨by kernel_rfl, by kernel_rfl, by kernel_rfl, by kernel_rfl, fun _ h => by cases h⟩
def ti3 : TI := { size := 1, zv := .int .i64 0, agg := false, kd := .int .i64 }
theorem tok3 : TIok Try.prog 3 ti3 := ⟨by kernel_rfl, by kernel_rfl, by kernel_rfl, by kernel_rfl, fun _ h => by cases h⟩
def ti4 : TI := { size := 1, zv := .bool false, agg := false, kd := .bool }
theorem tok4 : TIok Try.prog 4 ti4 := ⟨by kernel_rfl, by kernel_rfl, by kernel_rfl, by kernel_rfl, fun _ h => by cases h⟩
def ti5 : TI := { size := 1, zv := .int .u8 0, agg := false, kd := .int .u8 }
theorem tok5 : TIok Try.prog 5 ti5 := ⟨by kernel_rfl, by kernel_rfl, by kernel_rfl, by kernel_rfl, fun _ h => by cases h⟩
def ti9 : TI := { size := 1, zv := .string ByteArray.empty, agg := false, kd := .str }
theorem tok9 : TIok Try.prog 9 ti9 := ⟨by kernel_rfl, by kernel_rfl, by kernel_rfl, by kernel_rfl, fun _ h => by cases h⟩
def ti21 : TI := { size := 1, zv := .int .i32 0, agg := false, kd := .int .i32 }
theorem tok21 : TIok Try.prog 21 ti21 := ⟨by kernel_rfl, by kernel_rfl, by kernel_rfl, by kernel_rfl, fun _ h => by cases h⟩
def ti23 : TI := { size := 2, zv := .agg #[.int .u8 0, .int .i32 0], agg := true, kd := .struct [(0, (1, false)), (1, (1, false))] }
theorem tok23 : TIok Try.prog 23 ti23 := ⟨by kernel_rfl, by kernel_rfl, by kernel_rfl, by kernel_rfl, fun _ h => by cases h⟩
def ti27 : TI := { size := 1, zv := .slice none 0 0, agg := false, kd := .slice 43 3 3 }
theorem tok27 : TIok Try.prog 27 ti27 := ⟨by kernel_rfl, by kernel_rfl, by kernel_rfl, by kernel_rfl, fun _ h => by cases h⟩
def ti28 : TI := { size := 2, zv := .agg #[.int .i32 0, .int .i32 0], agg := true, kd := .arr 2 1 false }
theorem tok28 : TIok Try.prog 28 ti28 := ⟨by kernel_rfl, by kernel_rfl, by kernel_rfl, by kernel_rfl, fun _ h => by cases h⟩
def ti30 : TI := { size := 8, zv := .agg #[.bool false, .int .i32 0, .int .i32 0, .int .i32 0, .int .i32 0, .int .i32 0, .bool false, .int .i32 0], agg := true, kd := .struct [(0, (1, false)), (1, (1, false)), (2, (1, false)), (3, (1, false)), (4, (1, false)), (5, (1, false)), (6, (1, false)), (7, (1, false))] }
theorem tok30 : TIok Try.prog 30 ti30 := ⟨by kernel_rfl, by kernel_rfl, by kernel_rfl, by kernel_rfl, fun _ h => by cases h⟩
def ti32 : TI := { size := 28, zv := .agg #[.int .i32 0, .int .i32 0, .int .i32 0, .int .i32 0, .int .i32 0, .int .i64 0, .bool false, .bool false, .bool false, .bool false, .int .i32 0, .int .i32 0, .int .i32 0, .int .i32 0, .int .i32 0, .int .i32 0, .int .i32 0, .int .i32 0, .int .i32 0, .int .i32 0, .bool false, .int .i32 0, .int .i32 0, .int .i32 0, .int .i32 0, .int .i32 0, .bool false, .int .i32 0], agg := true, kd := .struct [(0, (1, false)), (1, (1, false)), (2, (1, false)), (3, (1, false)), (4, (1, false)), (5, (1, false)), (6, (1, false)), (7, (1, false)), (8, (1, false)), (9, (1, false)), (10, (2, true)), (12, (2, true)), (14, (2, true)), (16, (2, true)), (18, (1, false)), (19, (1, false)), (20, (8, true))], flat := some [some .i32, some .i32, some .i32, some .i32, some .i32, some .i64, none, none, none, none, some .i32, some .i32, some .i32, some .i32, some .i32, some .i32, some .i32, some .i32, some .i32, some .i32, none, some .i32, some .i32, some .i32, some .i32, some .i32, none, some .i32] }
theorem tok32 : TIok Try.prog 32 ti32 := ⟨by kernel_rfl, by kernel_rfl, by kernel_rfl, by kernel_rfl, fun _ h => by cases h; exact flatEq_of (by kernel_rfl) (by kernel_rfl) (by kernel_rfl)⟩
def ti33 : TI := { size := 1, zv := .pointer none, agg := false, kd := .ptr }
theorem tok33 : TIok Try.prog 33 ti33 := ⟨by kernel_rfl, by kernel_rfl, by kernel_rfl, by kernel_rfl, fun _ h => by cases h⟩
def ti38 : TI := { size := 1, zv := .int .i64 0, agg := false, kd := .int .i64 }
theorem tok38 : TIok Try.prog 38 ti38 := ⟨by kernel_rfl, by kernel_rfl, by kernel_rfl, by kernel_rfl, fun _ h => by cases h⟩
def ti43 : TI := { size := 3, zv := .agg #[.bool false, .bool false, .int .u8 0], agg := true, kd := .struct [(0, (1, false)), (1, (1, false)), (2, (1, false))] }
theorem tok43 : TIok Try.prog 43 ti43 := ⟨by kernel_rfl, by kernel_rfl, by kernel_rfl, by kernel_rfl, fun _ h => by cases h⟩
def ti45 : TI := { size := 1, zv := .slice none 0 0, agg := false, kd := .slice 5 1 1 }
theorem tok45 : TIok Try.prog 45 ti45 := ⟨by kernel_rfl, by kernel_rfl, by kernel_rfl, by kernel_rfl, fun _ h => by cases h⟩
def ti49 : TI := { size := 1, zv := .slice none 0 0, agg := false, kd := .slice 21 1 4 }
theorem tok49 : TIok Try.prog 49 ti49 := ⟨by kernel_rfl, by kernel_rfl, by kernel_rfl, by kernel_rfl, fun _ h => by cases h⟩
def ti51 : TI := { size := 4, zv := .agg #[.int .u8 0, .int .i32 0, .int .u8 0, .int .i32 0], agg := true, kd := .arr 2 2 true }
theorem tok51 : TIok Try.prog 51 ti51 := ⟨by kernel_rfl, by kernel_rfl, by kernel_rfl, by kernel_rfl, fun _ h => by cases h⟩
def ti59 : TI := { size := 1, zv := .nilFunc, agg := false, kd := .fn }
theorem tok59 : TIok Try.prog 59 ti59 := ⟨by kernel_rfl, by kernel_rfl, by kernel_rfl, by kernel_rfl, fun _ h => by cases h⟩
def ti65 : TI := { size := 1, zv := .agg #[.slice none 0 0], agg := true, kd := .struct [(0, (1, false))] }
theorem tok65 : TIok Try.prog 65 ti65 := ⟨by kernel_rfl, by kernel_rfl, by kernel_rfl, by kernel_rfl, fun _ h => by cases h⟩
def ti68 : TI := { size := 1, zv := .int .u32 0, agg := false, kd := .int .u32 }
theorem tok68 : TIok Try.prog 68 ti68 := ⟨by kernel_rfl, by kernel_rfl, by kernel_rfl, by kernel_rfl, fun _ h => by cases h⟩
def ti73 : TI := { size := 1, zv := .pointer none, agg := false, kd := .ptr }
theorem tok73 : TIok Try.prog 73 ti73 := ⟨by kernel_rfl, by kernel_rfl, by kernel_rfl, by kernel_rfl, fun _ h => by cases h⟩
def ti75 : TI := { size := 2, zv := .agg #[.pointer none, .int .i64 0], agg := true, kd := .struct [(0, (1, false)), (1, (1, false))] }
theorem tok75 : TIok Try.prog 75 ti75 := ⟨by kernel_rfl, by kernel_rfl, by kernel_rfl, by kernel_rfl, fun _ h => by cases h⟩
def ti77 : TI := { size := 30, zv := .agg #[.pointer none, .int .i64 0, .int .i32 0, .int .i32 0, .int .i32 0, .int .i32 0, .int .i32 0, .int .i64 0, .bool false, .bool false, .bool false, .bool false, .int .i32 0, .int .i32 0, .int .i32 0, .int .i32 0, .int .i32 0, .int .i32 0, .int .i32 0, .int .i32 0, .int .i32 0, .int .i32 0, .bool false, .int .i32 0, .int .i32 0, .int .i32 0, .int .i32 0, .int .i32 0, .bool false, .int .i32 0], agg := true, kd := .struct [(0, (2, true)), (2, (28, true))] }
theorem tok77 : TIok Try.prog 77 ti77 := ⟨by kernel_rfl, by kernel_rfl, by kernel_rfl, by kernel_rfl, fun _ h => by cases h⟩
def ti102 : TI := { size := 1, zv := .pointer none, agg := false, kd := .ptr }
theorem tok102 : TIok Try.prog 102 ti102 := ⟨by kernel_rfl, by kernel_rfl, by kernel_rfl, by kernel_rfl, fun _ h => by cases h⟩
abbrev tt : TT := [(2, ti2), (3, ti3), (4, ti4), (5, ti5), (9, ti9), (21, ti21), (23, ti23), (27, ti27), (28, ti28), (30, ti30), (32, ti32), (33, ti33), (38, ti38), (43, ti43), (45, ti45), (49, ti49), (51, ti51), (59, ti59), (65, ti65), (68, ti68), (73, ti73), (75, ti75), (77, ti77), (102, ti102)]
theorem tt_ok : TTok Try.prog tt := ⟨tok2, tok3, tok4, tok5, tok9, tok21, tok23, tok27, tok28, tok30, tok32, tok33, tok38, tok43, tok45, tok49, tok51, tok59, tok65, tok68, tok73, tok75, tok77, tok102, (show Try.prog.follows .mixedOrders = true by kernel_rfl)⟩
@[match_pattern] abbrev f_l31_AltMine : Nat := 3
theorem fn_l31_AltMine : Try.prog.funcs[f_l31_AltMine]? = some Try.f3 := Try.func3
abbrev n_l31_AltMine : Nat := 24
theorem nt_l31_AltMine : Try.f3.ntmps = n_l31_AltMine := Try.ntmps3
abbrev k_l31_AltMine : List Nat := [0, 1, 2, 4, 5]
abbrev rs_l31_AltMine : List ResultVar := [.tmp 4]
theorem cal_l31_AltMine : Sx.Callee Try.prog f_l31_AltMine := ⟨_, Try.func3, by kernel_rfl, by kernel_rfl⟩
noncomputable abbrev in_l31_AltMine (ct : CT) : Ent := .st (inlS tt ct n_l31_AltMine k_l31_AltMine rs_l31_AltMine 60 (Try.f3.body.getD .skip))
theorem in_l31_AltMine_ok {ct : CT} (h : CTok Try.prog ct) : EntOk Try.prog f_l31_AltMine (in_l31_AltMine ct) := inl_ok tt_ok h 60 fn_l31_AltMine rfl nt_l31_AltMine rfl cal_l31_AltMine (by kernel_rfl)
@[match_pattern] abbrev f_l31_AltSelects : Nat := 4
theorem fn_l31_AltSelects : Try.prog.funcs[f_l31_AltSelects]? = some Try.f4 := Try.func4
abbrev n_l31_AltSelects : Nat := 212
theorem nt_l31_AltSelects : Try.f4.ntmps = n_l31_AltSelects := Try.ntmps4
abbrev k_l31_AltSelects : List Nat := [0, 1, 4, 5, 6, 7, 8, 9, 10, 11, 12, 13, 14, 15, 16, 17, 18, 19, 20, 21, 22, 23, 24, 25, 65, 67, 81, 82, 83, 84, 91, 93, 142, 165, 168, 175, 185]
abbrev rs_l31_AltSelects : List ResultVar := [.tmp 4]
theorem cal_l31_AltSelects : Sx.Callee Try.prog f_l31_AltSelects := ⟨_, Try.func4, by kernel_rfl, by kernel_rfl⟩
noncomputable abbrev in_l31_AltSelects (ct : CT) : Ent := .st (inlS tt ct n_l31_AltSelects k_l31_AltSelects rs_l31_AltSelects 60 (Try.f4.body.getD .skip))
theorem in_l31_AltSelects_ok {ct : CT} (h : CTok Try.prog ct) : EntOk Try.prog f_l31_AltSelects (in_l31_AltSelects ct) := inl_ok tt_ok h 60 fn_l31_AltSelects rfl nt_l31_AltSelects rfl cal_l31_AltSelects (by kernel_rfl)
@[match_pattern] abbrev f_l31_AltKnown : Nat := 5
theorem fn_l31_AltKnown : Try.prog.funcs[f_l31_AltKnown]? = some Try.f5 := Try.func5
abbrev n_l31_AltKnown : Nat := 182
theorem nt_l31_AltKnown : Try.f5.ntmps = n_l31_AltKnown := Try.ntmps5
abbrev k_l31_AltKnown : List Nat := [0, 1, 2, 4, 6, 8, 10, 12, 13, 15, 16, 18, 19, 20, 22, 23, 25, 26, 27, 28, 30, 31]
abbrev rs_l31_AltKnown : List ResultVar := [.tmp 0]
theorem cal_l31_AltKnown : Sx.Callee Try.prog f_l31_AltKnown := ⟨_, Try.func5, by kernel_rfl, by kernel_rfl⟩
noncomputable abbrev in_l31_AltKnown (ct : CT) : Ent := .st (inlS tt ct n_l31_AltKnown k_l31_AltKnown rs_l31_AltKnown 60 (Try.f5.body.getD .skip))
theorem in_l31_AltKnown_ok {ct : CT} (h : CTok Try.prog ct) : EntOk Try.prog f_l31_AltKnown (in_l31_AltKnown ct) := inl_ok tt_ok h 60 fn_l31_AltKnown rfl nt_l31_AltKnown rfl cal_l31_AltKnown (by kernel_rfl)
@[match_pattern] abbrev f_l31_AltExecs : Nat := 6
theorem fn_l31_AltExecs : Try.prog.funcs[f_l31_AltExecs]? = some Try.f6 := Try.func6
abbrev n_l31_AltExecs : Nat := 123
theorem nt_l31_AltExecs : Try.f6.ntmps = n_l31_AltExecs := Try.ntmps6
abbrev k_l31_AltExecs : List Nat := [0, 1, 2, 3, 4, 5, 7, 10, 11, 12, 13, 14, 15, 16, 17, 18, 19, 20, 21, 22, 23, 25, 45, 46, 47, 52, 60, 63, 110]
abbrev rs_l31_AltExecs : List ResultVar := [.tmp 10]
theorem cal_l31_AltExecs : Sx.Callee Try.prog f_l31_AltExecs := ⟨_, Try.func6, by kernel_rfl, by kernel_rfl⟩
noncomputable abbrev in_l31_AltExecs (ct : CT) : Ent := .st (inlS tt ct n_l31_AltExecs k_l31_AltExecs rs_l31_AltExecs 60 (Try.f6.body.getD .skip))
theorem in_l31_AltExecs_ok {ct : CT} (h : CTok Try.prog ct) : EntOk Try.prog f_l31_AltExecs (in_l31_AltExecs ct) := inl_ok tt_ok h 60 fn_l31_AltExecs rfl nt_l31_AltExecs rfl cal_l31_AltExecs (by kernel_rfl)
@[match_pattern] abbrev f_l31_AltFalse : Nat := 7
theorem fn_l31_AltFalse : Try.prog.funcs[f_l31_AltFalse]? = some Try.f7 := Try.func7
abbrev n_l31_AltFalse : Nat := 141
theorem nt_l31_AltFalse : Try.f7.ntmps = n_l31_AltFalse := Try.ntmps7
abbrev k_l31_AltFalse : List Nat := [0, 1, 2, 3, 4, 8, 9, 11, 12, 13, 14, 15, 16, 17, 18, 19, 20]
abbrev rs_l31_AltFalse : List ResultVar := [.tmp 8]
theorem cal_l31_AltFalse : Sx.Callee Try.prog f_l31_AltFalse := ⟨_, Try.func7, by kernel_rfl, by kernel_rfl⟩
noncomputable abbrev in_l31_AltFalse (ct : CT) : Ent := .st (inlS tt ct n_l31_AltFalse k_l31_AltFalse rs_l31_AltFalse 60 (Try.f7.body.getD .skip))
theorem in_l31_AltFalse_ok {ct : CT} (h : CTok Try.prog ct) : EntOk Try.prog f_l31_AltFalse (in_l31_AltFalse ct) := inl_ok tt_ok h 60 fn_l31_AltFalse rfl nt_l31_AltFalse rfl cal_l31_AltFalse (by kernel_rfl)
@[match_pattern] abbrev f_alt_Mine : Nat := 8
theorem fn_alt_Mine : Try.prog.funcs[f_alt_Mine]? = some Try.f8 := Try.func8
abbrev n_alt_Mine : Nat := 12
theorem nt_alt_Mine : Try.f8.ntmps = n_alt_Mine := Try.ntmps8
abbrev k_alt_Mine : List Nat := [0, 1, 2]
abbrev rs_alt_Mine : List ResultVar := [.tmp 2]
theorem cal_alt_Mine : Sx.Callee Try.prog f_alt_Mine := ⟨_, Try.func8, by kernel_rfl, by kernel_rfl⟩
noncomputable abbrev in_alt_Mine (ct : CT) : Ent := .st (inlS tt ct n_alt_Mine k_alt_Mine rs_alt_Mine 60 (Try.f8.body.getD .skip))
theorem in_alt_Mine_ok {ct : CT} (h : CTok Try.prog ct) : EntOk Try.prog f_alt_Mine (in_alt_Mine ct) := inl_ok tt_ok h 60 fn_alt_Mine rfl nt_alt_Mine rfl cal_alt_Mine (by kernel_rfl)
@[match_pattern] abbrev f_r31_Mine : Nat := 9
theorem fn_r31_Mine : Try.prog.funcs[f_r31_Mine]? = some Try.f9 := Try.func9
abbrev n_r31_Mine : Nat := 39
theorem nt_r31_Mine : Try.f9.ntmps = n_r31_Mine := Try.ntmps9
abbrev k_r31_Mine : List Nat := [0, 1, 2, 5]
abbrev rs_r31_Mine : List ResultVar := [.tmp 2]
theorem cal_r31_Mine : Sx.Callee Try.prog f_r31_Mine := ⟨_, Try.func9, by kernel_rfl, by kernel_rfl⟩
noncomputable abbrev in_r31_Mine (ct : CT) : Ent := .st (inlS tt ct n_r31_Mine k_r31_Mine rs_r31_Mine 60 (Try.f9.body.getD .skip))
theorem in_r31_Mine_ok {ct : CT} (h : CTok Try.prog ct) : EntOk Try.prog f_r31_Mine (in_r31_Mine ct) := inl_ok tt_ok h 60 fn_r31_Mine rfl nt_r31_Mine rfl cal_r31_Mine (by kernel_rfl)
@[match_pattern] abbrev f_l31_works : Nat := 10
theorem fn_l31_works : Try.prog.funcs[f_l31_works]? = some Try.f10 := Try.func10
abbrev n_l31_works : Nat := 153
theorem nt_l31_works : Try.f10.ntmps = n_l31_works := Try.ntmps10
abbrev k_l31_works : List Nat := [0, 1, 2, 4, 5, 6]
abbrev rs_l31_works : List ResultVar := [.tmp 0]
theorem cal_l31_works : Sx.Callee Try.prog f_l31_works := ⟨_, Try.func10, by kernel_rfl, by kernel_rfl⟩
noncomputable abbrev in_l31_works (ct : CT) : Ent := .st (inlS tt ct n_l31_works k_l31_works rs_l31_works 60 (Try.f10.body.getD .skip))
theorem in_l31_works_ok {ct : CT} (h : CTok Try.prog ct) : EntOk Try.prog f_l31_works (in_l31_works ct) := inl_ok tt_ok h 60 fn_l31_works rfl nt_l31_works rfl cal_l31_works (by kernel_rfl)
@[match_pattern] abbrev f_l31_ready : Nat := 11
theorem fn_l31_ready : Try.prog.funcs[f_l31_ready]? = some Try.f11 := Try.func11
abbrev n_l31_ready : Nat := 10
theorem nt_l31_ready : Try.f11.ntmps = n_l31_ready := Try.ntmps11
abbrev k_l31_ready : List Nat := [0, 1, 2]
abbrev rs_l31_ready : List ResultVar := [.cell 0 32, .tmp 1]
theorem cal_l31_ready : Sx.Callee Try.prog f_l31_ready := ⟨_, Try.func11, by kernel_rfl, by kernel_rfl⟩
noncomputable abbrev in_l31_ready (ct : CT) : Ent := .st (inlS tt ct n_l31_ready k_l31_ready rs_l31_ready 60 (Try.f11.body.getD .skip))
theorem in_l31_ready_ok {ct : CT} (h : CTok Try.prog ct) : EntOk Try.prog f_l31_ready (in_l31_ready ct) := inl_ok tt_ok h 60 fn_l31_ready rfl nt_l31_ready rfl cal_l31_ready (by kernel_rfl)
@[match_pattern] abbrev f_l31_enabled : Nat := 12
theorem fn_l31_enabled : Try.prog.funcs[f_l31_enabled]? = some Try.f12 := Try.func12
abbrev n_l31_enabled : Nat := 138
theorem nt_l31_enabled : Try.f12.ntmps = n_l31_enabled := Try.ntmps12
abbrev k_l31_enabled : List Nat := [0, 1, 2, 3, 4, 8, 9, 10, 11, 13, 14, 15, 17, 18, 19, 20, 21, 22, 23, 25, 32, 50, 51, 52, 53, 57, 59]
abbrev rs_l31_enabled : List ResultVar := [.tmp 8, .tmp 9]
theorem cal_l31_enabled : Sx.Callee Try.prog f_l31_enabled := ⟨_, Try.func12, by kernel_rfl, by kernel_rfl⟩
noncomputable abbrev in_l31_enabled (ct : CT) : Ent := .st (inlS tt ct n_l31_enabled k_l31_enabled rs_l31_enabled 60 (Try.f12.body.getD .skip))
theorem in_l31_enabled_ok {ct : CT} (h : CTok Try.prog ct) : EntOk Try.prog f_l31_enabled (in_l31_enabled ct) := inl_ok tt_ok h 60 fn_l31_enabled rfl nt_l31_enabled rfl cal_l31_enabled (by kernel_rfl)
@[match_pattern] abbrev f_l31_exec : Nat := 13
theorem fn_l31_exec : Try.prog.funcs[f_l31_exec]? = some Try.f13 := Try.func13
abbrev n_l31_exec : Nat := 27
theorem nt_l31_exec : Try.f13.ntmps = n_l31_exec := Try.ntmps13
abbrev k_l31_exec : List Nat := [0, 1, 2, 3, 4, 5, 6, 12, 13]
abbrev rs_l31_exec : List ResultVar := [.cell 12 32, .tmp 13]
theorem cal_l31_exec : Sx.Callee Try.prog f_l31_exec := ⟨_, Try.func13, by kernel_rfl, by kernel_rfl⟩
noncomputable abbrev in_l31_exec (ct : CT) : Ent := .st (inlS tt ct n_l31_exec k_l31_exec rs_l31_exec 60 (Try.f13.body.getD .skip))
theorem in_l31_exec_ok {ct : CT} (h : CTok Try.prog ct) : EntOk Try.prog f_l31_exec (in_l31_exec ct) := inl_ok tt_ok h 60 fn_l31_exec rfl nt_l31_exec rfl cal_l31_exec (by kernel_rfl)
@[match_pattern] abbrev f_l31_word : Nat := 14
theorem fn_l31_word : Try.prog.funcs[f_l31_word]? = some Try.f14 := Try.func14
abbrev n_l31_word : Nat := 14
theorem nt_l31_word : Try.f14.ntmps = n_l31_word := Try.ntmps14
abbrev k_l31_word : List Nat := [0, 1, 4, 5]
abbrev rs_l31_word : List ResultVar := [.tmp 4]
theorem cal_l31_word : Sx.Callee Try.prog f_l31_word := ⟨_, Try.func14, by kernel_rfl, by kernel_rfl⟩
noncomputable abbrev in_l31_word (ct : CT) : Ent := .st (inlS tt ct n_l31_word k_l31_word rs_l31_word 60 (Try.f14.body.getD .skip))
theorem in_l31_word_ok {ct : CT} (h : CTok Try.prog ct) : EntOk Try.prog f_l31_word (in_l31_word ct) := inl_ok tt_ok h 60 fn_l31_word rfl nt_l31_word rfl cal_l31_word (by kernel_rfl)
@[match_pattern] abbrev f_mem_Mem_Bytes : Nat := 15
theorem fn_mem_Mem_Bytes : Try.prog.funcs[f_mem_Mem_Bytes]? = some Try.f15 := Try.func15
abbrev n_mem_Mem_Bytes : Nat := 19
theorem nt_mem_Mem_Bytes : Try.f15.ntmps = n_mem_Mem_Bytes := Try.ntmps15
abbrev k_mem_Mem_Bytes : List Nat := [0, 2, 3, 5]
abbrev rs_mem_Mem_Bytes : List ResultVar := [.tmp 2]
theorem cal_mem_Mem_Bytes : Sx.Callee Try.prog f_mem_Mem_Bytes := ⟨_, Try.func15, by kernel_rfl, by kernel_rfl⟩
noncomputable abbrev in_mem_Mem_Bytes (ct : CT) : Ent := .st (inlS tt ct n_mem_Mem_Bytes k_mem_Mem_Bytes rs_mem_Mem_Bytes 60 (Try.f15.body.getD .skip))
theorem in_mem_Mem_Bytes_ok {ct : CT} (h : CTok Try.prog ct) : EntOk Try.prog f_mem_Mem_Bytes (in_mem_Mem_Bytes ct) := inl_ok tt_ok h 60 fn_mem_Mem_Bytes rfl nt_mem_Mem_Bytes rfl cal_mem_Mem_Bytes (by kernel_rfl)
@[match_pattern] abbrev f_mem_Mem_SetWord : Nat := 16
theorem fn_mem_Mem_SetWord : Try.prog.funcs[f_mem_Mem_SetWord]? = some Try.f16 := Try.func16
abbrev n_mem_Mem_SetWord : Nat := 32
theorem nt_mem_Mem_SetWord : Try.f16.ntmps = n_mem_Mem_SetWord := Try.ntmps16
abbrev k_mem_Mem_SetWord : List Nat := [0, 1, 2, 6, 7, 8, 9, 17, 18, 19]
abbrev rs_mem_Mem_SetWord : List ResultVar := [.tmp 6]
theorem cal_mem_Mem_SetWord : Sx.Callee Try.prog f_mem_Mem_SetWord := ⟨_, Try.func16, by kernel_rfl, by kernel_rfl⟩
noncomputable abbrev in_mem_Mem_SetWord (ct : CT) : Ent := .st (inlS tt ct n_mem_Mem_SetWord k_mem_Mem_SetWord rs_mem_Mem_SetWord 60 (Try.f16.body.getD .skip))
theorem in_mem_Mem_SetWord_ok {ct : CT} (h : CTok Try.prog ct) : EntOk Try.prog f_mem_Mem_SetWord (in_mem_Mem_SetWord ct) := inl_ok tt_ok h 60 fn_mem_Mem_SetWord rfl nt_mem_Mem_SetWord rfl cal_mem_Mem_SetWord (by kernel_rfl)
@[match_pattern] abbrev f_l31_memory : Nat := 17
theorem fn_l31_memory : Try.prog.funcs[f_l31_memory]? = some Try.f17 := Try.func17
abbrev n_l31_memory : Nat := 18
theorem nt_l31_memory : Try.f17.ntmps = n_l31_memory := Try.ntmps17
abbrev k_l31_memory : List Nat := [0, 2, 3, 13]
abbrev rs_l31_memory : List ResultVar := [.tmp 2]
theorem cal_l31_memory : Sx.Callee Try.prog f_l31_memory := ⟨_, Try.func17, by kernel_rfl, by kernel_rfl⟩
noncomputable abbrev in_l31_memory (ct : CT) : Ent := .st (inlS tt ct n_l31_memory k_l31_memory rs_l31_memory 60 (Try.f17.body.getD .skip))
theorem in_l31_memory_ok {ct : CT} (h : CTok Try.prog ct) : EntOk Try.prog f_l31_memory (in_l31_memory ct) := inl_ok tt_ok h 60 fn_l31_memory rfl nt_l31_memory rfl cal_l31_memory (by kernel_rfl)
@[match_pattern] abbrev f_l31_operations : Nat := 18
theorem fn_l31_operations : Try.prog.funcs[f_l31_operations]? = some Try.f18 := Try.func18
abbrev n_l31_operations : Nat := 2
theorem nt_l31_operations : Try.f18.ntmps = n_l31_operations := Try.ntmps18
abbrev k_l31_operations : List Nat := [0]
abbrev rs_l31_operations : List ResultVar := [.tmp 0]
theorem cal_l31_operations : Sx.Callee Try.prog f_l31_operations := ⟨_, Try.func18, by kernel_rfl, by kernel_rfl⟩
noncomputable abbrev in_l31_operations (ct : CT) : Ent := .st (inlS tt ct n_l31_operations k_l31_operations rs_l31_operations 60 (Try.f18.body.getD .skip))
theorem in_l31_operations_ok {ct : CT} (h : CTok Try.prog ct) : EntOk Try.prog f_l31_operations (in_l31_operations ct) := inl_ok tt_ok h 60 fn_l31_operations rfl nt_l31_operations rfl cal_l31_operations (by kernel_rfl)
@[match_pattern] abbrev f_mem_From : Nat := 19
theorem fn_mem_From : Try.prog.funcs[f_mem_From]? = some Try.f19 := Try.func19
abbrev n_mem_From : Nat := 21
theorem nt_mem_From : Try.f19.ntmps = n_mem_From := Try.ntmps19
abbrev k_mem_From : List Nat := [0, 2, 3, 4, 8]
abbrev rs_mem_From : List ResultVar := [.tmp 2, .tmp 3]
theorem cal_mem_From : Sx.Callee Try.prog f_mem_From := ⟨_, Try.func19, by kernel_rfl, by kernel_rfl⟩
noncomputable abbrev in_mem_From (ct : CT) : Ent := .st (inlS tt ct n_mem_From k_mem_From rs_mem_From 60 (Try.f19.body.getD .skip))
theorem in_mem_From_ok {ct : CT} (h : CTok Try.prog ct) : EntOk Try.prog f_mem_From (in_mem_From ct) := inl_ok tt_ok h 60 fn_mem_From rfl nt_mem_From rfl cal_mem_From (by kernel_rfl)
@[match_pattern] abbrev f_alt_Exec : Nat := 20
theorem fn_alt_Exec : Try.prog.funcs[f_alt_Exec]? = some Try.f20 := Try.func20
abbrev n_alt_Exec : Nat := 57
theorem nt_alt_Exec : Try.f20.ntmps = n_alt_Exec := Try.ntmps20
abbrev k_alt_Exec : List Nat := [0, 1, 2, 3, 5, 6, 7, 8, 9, 14, 20, 25, 51]
abbrev rs_alt_Exec : List ResultVar := [.cell 6 32, .tmp 7]
theorem cal_alt_Exec : Sx.Callee Try.prog f_alt_Exec := ⟨_, Try.func20, by kernel_rfl, by kernel_rfl⟩
noncomputable abbrev in_alt_Exec (ct : CT) : Ent := .st (inlS tt ct n_alt_Exec k_alt_Exec rs_alt_Exec 60 (Try.f20.body.getD .skip))
theorem in_alt_Exec_ok {ct : CT} (h : CTok Try.prog ct) : EntOk Try.prog f_alt_Exec (in_alt_Exec ct) := inl_ok tt_ok h 60 fn_alt_Exec rfl nt_alt_Exec rfl cal_alt_Exec (by kernel_rfl)
@[match_pattern] abbrev f_r31_Exec : Nat := 21
theorem fn_r31_Exec : Try.prog.funcs[f_r31_Exec]? = some Try.f21 := Try.func21
abbrev n_r31_Exec : Nat := 176
theorem nt_r31_Exec : Try.f21.ntmps = n_r31_Exec := Try.ntmps21
abbrev k_r31_Exec : List Nat := [0, 1, 2, 3, 5, 6, 7, 8, 9, 10, 11, 12, 13, 21, 26, 61, 65, 66, 77, 81, 93, 97, 109, 117, 127, 140, 148, 165]
abbrev rs_r31_Exec : List ResultVar := [.cell 6 32, .tmp 7, .tmp 8]
theorem cal_r31_Exec : Sx.Callee Try.prog f_r31_Exec := ⟨_, Try.func21, by kernel_rfl, by kernel_rfl⟩
noncomputable abbrev in_r31_Exec (ct : CT) : Ent := .st (inlS tt ct n_r31_Exec k_r31_Exec rs_r31_Exec 60 (Try.f21.body.getD .skip))
theorem in_r31_Exec_ok {ct : CT} (h : CTok Try.prog ct) : EntOk Try.prog f_r31_Exec (in_r31_Exec ct) := inl_ok tt_ok h 60 fn_r31_Exec rfl nt_r31_Exec rfl cal_r31_Exec (by kernel_rfl)
@[match_pattern] abbrev f_alt_operation : Nat := 22
theorem fn_alt_operation : Try.prog.funcs[f_alt_operation]? = some Try.f22 := Try.func22
abbrev n_alt_operation : Nat := 18
theorem nt_alt_operation : Try.f22.ntmps = n_alt_operation := Try.ntmps22
abbrev k_alt_operation : List Nat := [0, 2, 3, 4, 6, 8, 10, 12, 14, 16]
abbrev rs_alt_operation : List ResultVar := [.tmp 2]
theorem cal_alt_operation : Sx.Callee Try.prog f_alt_operation := ⟨_, Try.func22, by kernel_rfl, by kernel_rfl⟩
noncomputable abbrev in_alt_operation (ct : CT) : Ent := .st (inlS tt ct n_alt_operation k_alt_operation rs_alt_operation 60 (Try.f22.body.getD .skip))
theorem in_alt_operation_ok {ct : CT} (h : CTok Try.prog ct) : EntOk Try.prog f_alt_operation (in_alt_operation ct) := inl_ok tt_ok h 60 fn_alt_operation rfl nt_alt_operation rfl cal_alt_operation (by kernel_rfl)
@[match_pattern] abbrev f_mem_New : Nat := 23
theorem fn_mem_New : Try.prog.funcs[f_mem_New]? = some Try.f23 := Try.func23
abbrev n_mem_New : Nat := 11
theorem nt_mem_New : Try.f23.ntmps = n_mem_New := Try.ntmps23
abbrev k_mem_New : List Nat := [0, 2, 3, 6]
abbrev rs_mem_New : List ResultVar := [.tmp 2, .tmp 3]
theorem cal_mem_New : Sx.Callee Try.prog f_mem_New := ⟨_, Try.func23, by kernel_rfl, by kernel_rfl⟩
noncomputable abbrev in_mem_New (ct : CT) : Ent := .st (inlS tt ct n_mem_New k_mem_New rs_mem_New 60 (Try.f23.body.getD .skip))
theorem in_mem_New_ok {ct : CT} (h : CTok Try.prog ct) : EntOk Try.prog f_mem_New (in_mem_New ct) := inl_ok tt_ok h 60 fn_mem_New rfl nt_mem_New rfl cal_mem_New (by kernel_rfl)
@[match_pattern] abbrev f_mem_Mem_Word : Nat := 24
theorem fn_mem_Mem_Word : Try.prog.funcs[f_mem_Mem_Word]? = some Try.f24 := Try.func24
abbrev n_mem_Mem_Word : Nat := 40
theorem nt_mem_Mem_Word : Try.f24.ntmps = n_mem_Mem_Word := Try.ntmps24
abbrev k_mem_Mem_Word : List Nat := [0, 1, 4, 5, 6, 7, 15]
abbrev rs_mem_Mem_Word : List ResultVar := [.tmp 4, .tmp 5]
theorem cal_mem_Mem_Word : Sx.Callee Try.prog f_mem_Mem_Word := ⟨_, Try.func24, by kernel_rfl, by kernel_rfl⟩
noncomputable abbrev in_mem_Mem_Word (ct : CT) : Ent := .st (inlS tt ct n_mem_Mem_Word k_mem_Mem_Word rs_mem_Mem_Word 60 (Try.f24.body.getD .skip))
theorem in_mem_Mem_Word_ok {ct : CT} (h : CTok Try.prog ct) : EntOk Try.prog f_mem_Mem_Word (in_mem_Mem_Word ct) := inl_ok tt_ok h 60 fn_mem_Mem_Word rfl nt_mem_Mem_Word rfl cal_mem_Mem_Word (by kernel_rfl)
@[match_pattern] abbrev f_mem_Mem_none : Nat := 25
theorem fn_mem_Mem_none : Try.prog.funcs[f_mem_Mem_none]? = some Try.f25 := Try.func25
abbrev n_mem_Mem_none : Nat := 13
theorem nt_mem_Mem_none : Try.f25.ntmps = n_mem_Mem_none := Try.ntmps25
abbrev k_mem_Mem_none : List Nat := [0, 2]
abbrev rs_mem_Mem_none : List ResultVar := [.tmp 2]
theorem cal_mem_Mem_none : Sx.Callee Try.prog f_mem_Mem_none := ⟨_, Try.func25, by kernel_rfl, by kernel_rfl⟩
noncomputable abbrev in_mem_Mem_none (ct : CT) : Ent := .st (inlS tt ct n_mem_Mem_none k_mem_Mem_none rs_mem_Mem_none 60 (Try.f25.body.getD .skip))
theorem in_mem_Mem_none_ok {ct : CT} (h : CTok Try.prog ct) : EntOk Try.prog f_mem_Mem_none (in_mem_Mem_none ct) := inl_ok tt_ok h 60 fn_mem_Mem_none rfl nt_mem_Mem_none rfl cal_mem_Mem_none (by kernel_rfl)
@[match_pattern] abbrev f_mem_Mem_word : Nat := 26
theorem fn_mem_Mem_word : Try.prog.funcs[f_mem_Mem_word]? = some Try.f26 := Try.func26
abbrev n_mem_Mem_word : Nat := 12
theorem nt_mem_Mem_word : Try.f26.ntmps = n_mem_Mem_word := Try.ntmps26
abbrev k_mem_Mem_word : List Nat := [0, 1, 4, 5]
abbrev rs_mem_Mem_word : List ResultVar := [.tmp 4, .tmp 5]
theorem cal_mem_Mem_word : Sx.Callee Try.prog f_mem_Mem_word := ⟨_, Try.func26, by kernel_rfl, by kernel_rfl⟩
noncomputable abbrev in_mem_Mem_word (ct : CT) : Ent := .st (inlS tt ct n_mem_Mem_word k_mem_Mem_word rs_mem_Mem_word 60 (Try.f26.body.getD .skip))
theorem in_mem_Mem_word_ok {ct : CT} (h : CTok Try.prog ct) : EntOk Try.prog f_mem_Mem_word (in_mem_Mem_word ct) := inl_ok tt_ok h 60 fn_mem_Mem_word rfl nt_mem_Mem_word rfl cal_mem_Mem_word (by kernel_rfl)
@[match_pattern] abbrev f_mem_may : Nat := 27
theorem fn_mem_may : Try.prog.funcs[f_mem_may]? = some Try.f27 := Try.func27
abbrev n_mem_may : Nat := 14
theorem nt_mem_may : Try.f27.ntmps = n_mem_may := Try.ntmps27
abbrev k_mem_may : List Nat := [0, 2]
abbrev rs_mem_may : List ResultVar := [.tmp 2]
theorem cal_mem_may : Sx.Callee Try.prog f_mem_may := ⟨_, Try.func27, by kernel_rfl, by kernel_rfl⟩
noncomputable abbrev in_mem_may (ct : CT) : Ent := .st (inlS tt ct n_mem_may k_mem_may rs_mem_may 60 (Try.f27.body.getD .skip))
theorem in_mem_may_ok {ct : CT} (h : CTok Try.prog ct) : EntOk Try.prog f_mem_may (in_mem_may ct) := inl_ok tt_ok h 60 fn_mem_may rfl nt_mem_may rfl cal_mem_may (by kernel_rfl)
@[match_pattern] abbrev f_mem_Mem_Size : Nat := 28
theorem fn_mem_Mem_Size : Try.prog.funcs[f_mem_Mem_Size]? = some Try.f28 := Try.func28
abbrev n_mem_Mem_Size : Nat := 10
theorem nt_mem_Mem_Size : Try.f28.ntmps = n_mem_Mem_Size := Try.ntmps28
abbrev k_mem_Mem_Size : List Nat := [0, 2, 4]
abbrev rs_mem_Mem_Size : List ResultVar := [.tmp 2]
theorem cal_mem_Mem_Size : Sx.Callee Try.prog f_mem_Mem_Size := ⟨_, Try.func28, by kernel_rfl, by kernel_rfl⟩
noncomputable abbrev in_mem_Mem_Size (ct : CT) : Ent := .st (inlS tt ct n_mem_Mem_Size k_mem_Mem_Size rs_mem_Mem_Size 60 (Try.f28.body.getD .skip))
theorem in_mem_Mem_Size_ok {ct : CT} (h : CTok Try.prog ct) : EntOk Try.prog f_mem_Mem_Size (in_mem_Mem_Size ct) := inl_ok tt_ok h 60 fn_mem_Mem_Size rfl nt_mem_Mem_Size rfl cal_mem_Mem_Size (by kernel_rfl)
@[match_pattern] abbrev f_alt_linked : Nat := 29
theorem fn_alt_linked : Try.prog.funcs[f_alt_linked]? = some Try.f29 := Try.func29
abbrev n_alt_linked : Nat := 34
theorem nt_alt_linked : Try.f29.ntmps = n_alt_linked := Try.ntmps29
abbrev k_alt_linked : List Nat := [0, 1, 2, 4, 5]
abbrev rs_alt_linked : List ResultVar := [.tmp 4]
theorem cal_alt_linked : Sx.Callee Try.prog f_alt_linked := ⟨_, Try.func29, by kernel_rfl, by kernel_rfl⟩
noncomputable abbrev in_alt_linked (ct : CT) : Ent := .st (inlS tt ct n_alt_linked k_alt_linked rs_alt_linked 60 (Try.f29.body.getD .skip))
theorem in_alt_linked_ok {ct : CT} (h : CTok Try.prog ct) : EntOk Try.prog f_alt_linked (in_alt_linked ct) := inl_ok tt_ok h 60 fn_alt_linked rfl nt_alt_linked rfl cal_alt_linked (by kernel_rfl)
@[match_pattern] abbrev f_r31_linked : Nat := 30
theorem fn_r31_linked : Try.prog.funcs[f_r31_linked]? = some Try.f30 := Try.func30
abbrev n_r31_linked : Nat := 6
theorem nt_r31_linked : Try.f30.ntmps = n_r31_linked := Try.ntmps30
abbrev k_r31_linked : List Nat := [0, 2]
abbrev rs_r31_linked : List ResultVar := [.tmp 2]
theorem cal_r31_linked : Sx.Callee Try.prog f_r31_linked := ⟨_, Try.func30, by kernel_rfl, by kernel_rfl⟩
noncomputable abbrev in_r31_linked (ct : CT) : Ent := .st (inlS tt ct n_r31_linked k_r31_linked rs_r31_linked 60 (Try.f30.body.getD .skip))
theorem in_r31_linked_ok {ct : CT} (h : CTok Try.prog ct) : EntOk Try.prog f_r31_linked (in_r31_linked ct) := inl_ok tt_ok h 60 fn_r31_linked rfl nt_r31_linked rfl cal_r31_linked (by kernel_rfl)
@[match_pattern] abbrev f_r31_store : Nat := 31
theorem fn_r31_store : Try.prog.funcs[f_r31_store]? = some Try.f31 := Try.func31
abbrev n_r31_store : Nat := 26
theorem nt_r31_store : Try.f31.ntmps = n_r31_store := Try.ntmps31
abbrev k_r31_store : List Nat := [0, 1, 2, 3, 4, 8, 9, 10, 11, 12, 21]
abbrev rs_r31_store : List ResultVar := [.cell 8 32, .tmp 9, .tmp 10]
theorem cal_r31_store : Sx.Callee Try.prog f_r31_store := ⟨_, Try.func31, by kernel_rfl, by kernel_rfl⟩
noncomputable abbrev in_r31_store (ct : CT) : Ent := .st (inlS tt ct n_r31_store k_r31_store rs_r31_store 60 (Try.f31.body.getD .skip))
theorem in_r31_store_ok {ct : CT} (h : CTok Try.prog ct) : EntOk Try.prog f_r31_store (in_r31_store ct) := inl_ok tt_ok h 60 fn_r31_store rfl nt_r31_store rfl cal_r31_store (by kernel_rfl)
@[match_pattern] abbrev f_r31_at : Nat := 32
theorem fn_r31_at : Try.prog.funcs[f_r31_at]? = some Try.f32 := Try.func32
abbrev n_r31_at : Nat := 12
theorem nt_r31_at : Try.f32.ntmps = n_r31_at := Try.ntmps32
abbrev k_r31_at : List Nat := [0, 1, 4]
abbrev rs_r31_at : List ResultVar := [.tmp 4]
theorem cal_r31_at : Sx.Callee Try.prog f_r31_at := ⟨_, Try.func32, by kernel_rfl, by kernel_rfl⟩
noncomputable abbrev in_r31_at (ct : CT) : Ent := .st (inlS tt ct n_r31_at k_r31_at rs_r31_at 60 (Try.f32.body.getD .skip))
theorem in_r31_at_ok {ct : CT} (h : CTok Try.prog ct) : EntOk Try.prog f_r31_at (in_r31_at ct) := inl_ok tt_ok h 60 fn_r31_at rfl nt_r31_at rfl cal_r31_at (by kernel_rfl)
@[match_pattern] abbrev f_r31_enable : Nat := 33
theorem fn_r31_enable : Try.prog.funcs[f_r31_enable]? = some Try.f33 := Try.func33
abbrev n_r31_enable : Nat := 51
theorem nt_r31_enable : Try.f33.ntmps = n_r31_enable := Try.ntmps33
abbrev k_r31_enable : List Nat := [0, 1, 2, 4, 5, 6, 7, 8, 9, 19, 26, 39]
abbrev rs_r31_enable : List ResultVar := [.cell 4 32, .tmp 5, .tmp 6]
theorem cal_r31_enable : Sx.Callee Try.prog f_r31_enable := ⟨_, Try.func33, by kernel_rfl, by kernel_rfl⟩
noncomputable abbrev in_r31_enable (ct : CT) : Ent := .st (inlS tt ct n_r31_enable k_r31_enable rs_r31_enable 60 (Try.f33.body.getD .skip))
theorem in_r31_enable_ok {ct : CT} (h : CTok Try.prog ct) : EntOk Try.prog f_r31_enable (in_r31_enable ct) := inl_ok tt_ok h 60 fn_r31_enable rfl nt_r31_enable rfl cal_r31_enable (by kernel_rfl)
@[match_pattern] abbrev f_r31_wait : Nat := 34
theorem fn_r31_wait : Try.prog.funcs[f_r31_wait]? = some Try.f34 := Try.func34
abbrev n_r31_wait : Nat := 61
theorem nt_r31_wait : Try.f34.ntmps = n_r31_wait := Try.ntmps34
abbrev k_r31_wait : List Nat := [0, 1, 2, 4, 5, 6, 7, 8, 9, 10, 11, 12, 33, 37, 56]
abbrev rs_r31_wait : List ResultVar := [.cell 4 32, .tmp 5, .tmp 6]
theorem cal_r31_wait : Sx.Callee Try.prog f_r31_wait := ⟨_, Try.func34, by kernel_rfl, by kernel_rfl⟩
noncomputable abbrev in_r31_wait (ct : CT) : Ent := .st (inlS tt ct n_r31_wait k_r31_wait rs_r31_wait 60 (Try.f34.body.getD .skip))
theorem in_r31_wait_ok {ct : CT} (h : CTok Try.prog ct) : EntOk Try.prog f_r31_wait (in_r31_wait ct) := inl_ok tt_ok h 60 fn_r31_wait rfl nt_r31_wait rfl cal_r31_wait (by kernel_rfl)
@[match_pattern] abbrev f_r03_Word : Nat := 35
theorem fn_r03_Word : Try.prog.funcs[f_r03_Word]? = some Try.f35 := Try.func35
abbrev n_r03_Word : Nat := 50
theorem nt_r03_Word : Try.f35.ntmps = n_r03_Word := Try.ntmps35
abbrev k_r03_Word : List Nat := [0, 1, 4, 5, 6, 7, 12]
abbrev rs_r03_Word : List ResultVar := [.tmp 4, .tmp 5]
theorem cal_r03_Word : Sx.Callee Try.prog f_r03_Word := ⟨_, Try.func35, by kernel_rfl, by kernel_rfl⟩
noncomputable abbrev in_r03_Word (ct : CT) : Ent := .st (inlS tt ct n_r03_Word k_r03_Word rs_r03_Word 60 (Try.f35.body.getD .skip))
theorem in_r03_Word_ok {ct : CT} (h : CTok Try.prog ct) : EntOk Try.prog f_r03_Word (in_r03_Word ct) := inl_ok tt_ok h 60 fn_r03_Word rfl nt_r03_Word rfl cal_r03_Word (by kernel_rfl)
@[match_pattern] abbrev f_r01_Wrap : Nat := 36
theorem fn_r01_Wrap : Try.prog.funcs[f_r01_Wrap]? = some Try.f36 := Try.func36
abbrev n_r01_Wrap : Nat := 15
theorem nt_r01_Wrap : Try.f36.ntmps = n_r01_Wrap := Try.ntmps36
abbrev k_r01_Wrap : List Nat := [0, 2, 6, 10]
abbrev rs_r01_Wrap : List ResultVar := [.tmp 2]
theorem cal_r01_Wrap : Sx.Callee Try.prog f_r01_Wrap := ⟨_, Try.func36, by kernel_rfl, by kernel_rfl⟩
noncomputable abbrev in_r01_Wrap (ct : CT) : Ent := .st (inlS tt ct n_r01_Wrap k_r01_Wrap rs_r01_Wrap 60 (Try.f36.body.getD .skip))
theorem in_r01_Wrap_ok {ct : CT} (h : CTok Try.prog ct) : EntOk Try.prog f_r01_Wrap (in_r01_Wrap ct) := inl_ok tt_ok h 60 fn_r01_Wrap rfl nt_r01_Wrap rfl cal_r01_Wrap (by kernel_rfl)
@[match_pattern] abbrev f_r31_choose : Nat := 37
theorem fn_r31_choose : Try.prog.funcs[f_r31_choose]? = some Try.f37 := Try.func37
abbrev n_r31_choose : Nat := 38
theorem nt_r31_choose : Try.f37.ntmps = n_r31_choose := Try.ntmps37
abbrev k_r31_choose : List Nat := [0, 1, 2, 4, 5, 6, 7, 8, 9, 18, 22]
abbrev rs_r31_choose : List ResultVar := [.cell 4 32, .tmp 5, .tmp 6]
theorem cal_r31_choose : Sx.Callee Try.prog f_r31_choose := ⟨_, Try.func37, by kernel_rfl, by kernel_rfl⟩
noncomputable abbrev in_r31_choose (ct : CT) : Ent := .st (inlS tt ct n_r31_choose k_r31_choose rs_r31_choose 60 (Try.f37.body.getD .skip))
theorem in_r31_choose_ok {ct : CT} (h : CTok Try.prog ct) : EntOk Try.prog f_r31_choose (in_r31_choose ct) := inl_ok tt_ok h 60 fn_r31_choose rfl nt_r31_choose rfl cal_r31_choose (by kernel_rfl)
@[match_pattern] abbrev f_r31_disable : Nat := 38
theorem fn_r31_disable : Try.prog.funcs[f_r31_disable]? = some Try.f38 := Try.func38
abbrev n_r31_disable : Nat := 49
theorem nt_r31_disable : Try.f38.ntmps = n_r31_disable := Try.ntmps38
abbrev k_r31_disable : List Nat := [0, 1, 2, 3, 6, 7, 8, 9, 10, 18, 28, 39]
abbrev rs_r31_disable : List ResultVar := [.cell 6 32, .tmp 7, .tmp 8]
theorem cal_r31_disable : Sx.Callee Try.prog f_r31_disable := ⟨_, Try.func38, by kernel_rfl, by kernel_rfl⟩
noncomputable abbrev in_r31_disable (ct : CT) : Ent := .st (inlS tt ct n_r31_disable k_r31_disable rs_r31_disable 60 (Try.f38.body.getD .skip))
theorem in_r31_disable_ok {ct : CT} (h : CTok Try.prog ct) : EntOk Try.prog f_r31_disable (in_r31_disable ct) := inl_ok tt_ok h 60 fn_r31_disable rfl nt_r31_disable rfl cal_r31_disable (by kernel_rfl)
@[match_pattern] abbrev f_alt_machine_alt : Nat := 39
theorem fn_alt_machine_alt : Try.prog.funcs[f_alt_machine_alt]? = some Try.f39 := Try.func39
abbrev n_alt_machine_alt : Nat := 8
theorem nt_alt_machine_alt : Try.f39.ntmps = n_alt_machine_alt := Try.ntmps39
abbrev k_alt_machine_alt : List Nat := [0]
abbrev rs_alt_machine_alt : List ResultVar := []
theorem cal_alt_machine_alt : Sx.Callee Try.prog f_alt_machine_alt := ⟨_, Try.func39, by kernel_rfl, by kernel_rfl⟩
noncomputable abbrev in_alt_machine_alt (ct : CT) : Ent := .st (inlS tt ct n_alt_machine_alt k_alt_machine_alt rs_alt_machine_alt 60 (Try.f39.body.getD .skip))
theorem in_alt_machine_alt_ok {ct : CT} (h : CTok Try.prog ct) : EntOk Try.prog f_alt_machine_alt (in_alt_machine_alt ct) := inl_ok tt_ok h 60 fn_alt_machine_alt rfl nt_alt_machine_alt rfl cal_alt_machine_alt (by kernel_rfl)
@[match_pattern] abbrev f_alt_machine_enbs : Nat := 40
theorem fn_alt_machine_enbs : Try.prog.funcs[f_alt_machine_enbs]? = some Try.f40 := Try.func40
abbrev n_alt_machine_enbs : Nat := 14
theorem nt_alt_machine_enbs : Try.f40.ntmps = n_alt_machine_enbs := Try.ntmps40
abbrev k_alt_machine_enbs : List Nat := [0, 7]
abbrev rs_alt_machine_enbs : List ResultVar := []
theorem cal_alt_machine_enbs : Sx.Callee Try.prog f_alt_machine_enbs := ⟨_, Try.func40, by kernel_rfl, by kernel_rfl⟩
noncomputable abbrev in_alt_machine_enbs (ct : CT) : Ent := .st (inlS tt ct n_alt_machine_enbs k_alt_machine_enbs rs_alt_machine_enbs 60 (Try.f40.body.getD .skip))
theorem in_alt_machine_enbs_ok {ct : CT} (h : CTok Try.prog ct) : EntOk Try.prog f_alt_machine_enbs (in_alt_machine_enbs ct) := inl_ok tt_ok h 60 fn_alt_machine_enbs rfl nt_alt_machine_enbs rfl cal_alt_machine_enbs (by kernel_rfl)
@[match_pattern] abbrev f_alt_machine_enbc : Nat := 41
theorem fn_alt_machine_enbc : Try.prog.funcs[f_alt_machine_enbc]? = some Try.f41 := Try.func41
abbrev n_alt_machine_enbc : Nat := 49
theorem nt_alt_machine_enbc : Try.f41.ntmps = n_alt_machine_enbc := Try.ntmps41
abbrev k_alt_machine_enbc : List Nat := [0, 2, 3, 24, 29, 36, 45]
abbrev rs_alt_machine_enbc : List ResultVar := []
theorem cal_alt_machine_enbc : Sx.Callee Try.prog f_alt_machine_enbc := ⟨_, Try.func41, by kernel_rfl, by kernel_rfl⟩
noncomputable abbrev in_alt_machine_enbc (ct : CT) : Ent := .st (inlS tt ct n_alt_machine_enbc k_alt_machine_enbc rs_alt_machine_enbc 60 (Try.f41.body.getD .skip))
theorem in_alt_machine_enbc_ok {ct : CT} (h : CTok Try.prog ct) : EntOk Try.prog f_alt_machine_enbc (in_alt_machine_enbc ct) := inl_ok tt_ok h 60 fn_alt_machine_enbc rfl nt_alt_machine_enbc rfl cal_alt_machine_enbc (by kernel_rfl)
@[match_pattern] abbrev f_alt_machine_altwt : Nat := 42
theorem fn_alt_machine_altwt : Try.prog.funcs[f_alt_machine_altwt]? = some Try.f42 := Try.func42
abbrev n_alt_machine_altwt : Nat := 67
theorem nt_alt_machine_altwt : Try.f42.ntmps = n_alt_machine_altwt := Try.ntmps42
abbrev k_alt_machine_altwt : List Nat := [0, 2, 3, 4, 12, 27, 42]
abbrev rs_alt_machine_altwt : List ResultVar := []
theorem cal_alt_machine_altwt : Sx.Callee Try.prog f_alt_machine_altwt := ⟨_, Try.func42, by kernel_rfl, by kernel_rfl⟩
noncomputable abbrev in_alt_machine_altwt (ct : CT) : Ent := .st (inlS tt ct n_alt_machine_altwt k_alt_machine_altwt rs_alt_machine_altwt 60 (Try.f42.body.getD .skip))
theorem in_alt_machine_altwt_ok {ct : CT} (h : CTok Try.prog ct) : EntOk Try.prog f_alt_machine_altwt (in_alt_machine_altwt ct) := inl_ok tt_ok h 60 fn_alt_machine_altwt rfl nt_alt_machine_altwt rfl cal_alt_machine_altwt (by kernel_rfl)
@[match_pattern] abbrev f_alt_machine_diss : Nat := 43
theorem fn_alt_machine_diss : Try.prog.funcs[f_alt_machine_diss]? = some Try.f43 := Try.func43
abbrev n_alt_machine_diss : Nat := 32
theorem nt_alt_machine_diss : Try.f43.ntmps = n_alt_machine_diss := Try.ntmps43
abbrev k_alt_machine_diss : List Nat := [0, 2, 3, 28]
abbrev rs_alt_machine_diss : List ResultVar := []
theorem cal_alt_machine_diss : Sx.Callee Try.prog f_alt_machine_diss := ⟨_, Try.func43, by kernel_rfl, by kernel_rfl⟩
noncomputable abbrev in_alt_machine_diss (ct : CT) : Ent := .st (inlS tt ct n_alt_machine_diss k_alt_machine_diss rs_alt_machine_diss 60 (Try.f43.body.getD .skip))
theorem in_alt_machine_diss_ok {ct : CT} (h : CTok Try.prog ct) : EntOk Try.prog f_alt_machine_diss (in_alt_machine_diss ct) := inl_ok tt_ok h 60 fn_alt_machine_diss rfl nt_alt_machine_diss rfl cal_alt_machine_diss (by kernel_rfl)
@[match_pattern] abbrev f_alt_machine_disc : Nat := 44
theorem fn_alt_machine_disc : Try.prog.funcs[f_alt_machine_disc]? = some Try.f44 := Try.func44
abbrev n_alt_machine_disc : Nat := 53
theorem nt_alt_machine_disc : Try.f44.ntmps = n_alt_machine_disc := Try.ntmps44
abbrev k_alt_machine_disc : List Nat := [0, 2, 3, 4, 33, 38, 42, 51]
abbrev rs_alt_machine_disc : List ResultVar := []
theorem cal_alt_machine_disc : Sx.Callee Try.prog f_alt_machine_disc := ⟨_, Try.func44, by kernel_rfl, by kernel_rfl⟩
noncomputable abbrev in_alt_machine_disc (ct : CT) : Ent := .st (inlS tt ct n_alt_machine_disc k_alt_machine_disc rs_alt_machine_disc 60 (Try.f44.body.getD .skip))
theorem in_alt_machine_disc_ok {ct : CT} (h : CTok Try.prog ct) : EntOk Try.prog f_alt_machine_disc (in_alt_machine_disc ct) := inl_ok tt_ok h 60 fn_alt_machine_disc rfl nt_alt_machine_disc rfl cal_alt_machine_disc (by kernel_rfl)
@[match_pattern] abbrev f_alt_machine_altend : Nat := 45
theorem fn_alt_machine_altend : Try.prog.funcs[f_alt_machine_altend]? = some Try.f45 := Try.func45
abbrev n_alt_machine_altend : Nat := 20
theorem nt_alt_machine_altend : Try.f45.ntmps = n_alt_machine_altend := Try.ntmps45
abbrev k_alt_machine_altend : List Nat := [0]
abbrev rs_alt_machine_altend : List ResultVar := []
theorem cal_alt_machine_altend : Sx.Callee Try.prog f_alt_machine_altend := ⟨_, Try.func45, by kernel_rfl, by kernel_rfl⟩
noncomputable abbrev in_alt_machine_altend (ct : CT) : Ent := .st (inlS tt ct n_alt_machine_altend k_alt_machine_altend rs_alt_machine_altend 60 (Try.f45.body.getD .skip))
theorem in_alt_machine_altend_ok {ct : CT} (h : CTok Try.prog ct) : EntOk Try.prog f_alt_machine_altend (in_alt_machine_altend ct) := inl_ok tt_ok h 60 fn_alt_machine_altend rfl nt_alt_machine_altend rfl cal_alt_machine_altend (by kernel_rfl)
@[match_pattern] abbrev f_mem_Mem_span : Nat := 46
theorem fn_mem_Mem_span : Try.prog.funcs[f_mem_Mem_span]? = some Try.f46 := Try.func46
abbrev n_mem_Mem_span : Nat := 44
theorem nt_mem_Mem_span : Try.f46.ntmps = n_mem_Mem_span := Try.ntmps46
abbrev k_mem_Mem_span : List Nat := [0, 1, 2, 6, 7, 8, 10, 31]
abbrev rs_mem_Mem_span : List ResultVar := [.tmp 6, .tmp 7]
theorem cal_mem_Mem_span : Sx.Callee Try.prog f_mem_Mem_span := ⟨_, Try.func46, by kernel_rfl, by kernel_rfl⟩
noncomputable abbrev in_mem_Mem_span (ct : CT) : Ent := .st (inlS tt ct n_mem_Mem_span k_mem_Mem_span rs_mem_Mem_span 60 (Try.f46.body.getD .skip))
theorem in_mem_Mem_span_ok {ct : CT} (h : CTok Try.prog ct) : EntOk Try.prog f_mem_Mem_span (in_mem_Mem_span ct) := inl_ok tt_ok h 60 fn_mem_Mem_span rfl nt_mem_Mem_span rfl cal_mem_Mem_span (by kernel_rfl)
@[match_pattern] abbrev f_r03_Index : Nat := 47
theorem fn_r03_Index : Try.prog.funcs[f_r03_Index]? = some Try.f47 := Try.func47
abbrev n_r03_Index : Nat := 6
theorem nt_r03_Index : Try.f47.ntmps = n_r03_Index := Try.ntmps47
abbrev k_r03_Index : List Nat := [0, 2]
abbrev rs_r03_Index : List ResultVar := [.tmp 2]
theorem cal_r03_Index : Sx.Callee Try.prog f_r03_Index := ⟨_, Try.func47, by kernel_rfl, by kernel_rfl⟩
noncomputable abbrev in_r03_Index (ct : CT) : Ent := .st (inlS tt ct n_r03_Index k_r03_Index rs_r03_Index 60 (Try.f47.body.getD .skip))
theorem in_r03_Index_ok {ct : CT} (h : CTok Try.prog ct) : EntOk Try.prog f_r03_Index (in_r03_Index ct) := inl_ok tt_ok h 60 fn_r03_Index rfl nt_r03_Index rfl cal_r03_Index (by kernel_rfl)
@[match_pattern] abbrev f_r03_SetWord : Nat := 48
theorem fn_r03_SetWord : Try.prog.funcs[f_r03_SetWord]? = some Try.f48 := Try.func48
abbrev n_r03_SetWord : Nat := 25
theorem nt_r03_SetWord : Try.f48.ntmps = n_r03_SetWord := Try.ntmps48
abbrev k_r03_SetWord : List Nat := [0, 1, 2, 6, 7, 8, 13]
abbrev rs_r03_SetWord : List ResultVar := [.tmp 6, .tmp 7]
theorem cal_r03_SetWord : Sx.Callee Try.prog f_r03_SetWord := ⟨_, Try.func48, by kernel_rfl, by kernel_rfl⟩
noncomputable abbrev in_r03_SetWord (ct : CT) : Ent := .st (inlS tt ct n_r03_SetWord k_r03_SetWord rs_r03_SetWord 60 (Try.f48.body.getD .skip))
theorem in_r03_SetWord_ok {ct : CT} (h : CTok Try.prog ct) : EntOk Try.prog f_r03_SetWord (in_r03_SetWord ct) := inl_ok tt_ok h 60 fn_r03_SetWord rfl nt_r03_SetWord rfl cal_r03_SetWord (by kernel_rfl)
@[match_pattern] abbrev f_r31_own : Nat := 49
theorem fn_r31_own : Try.prog.funcs[f_r31_own]? = some Try.f49 := Try.func49
abbrev n_r31_own : Nat := 10
theorem nt_r31_own : Try.f49.ntmps = n_r31_own := Try.ntmps49
abbrev k_r31_own : List Nat := [0, 1, 2]
abbrev rs_r31_own : List ResultVar := [.tmp 2]
theorem cal_r31_own : Sx.Callee Try.prog f_r31_own := ⟨_, Try.func49, by kernel_rfl, by kernel_rfl⟩
noncomputable abbrev in_r31_own (ct : CT) : Ent := .st (inlS tt ct n_r31_own k_r31_own rs_r31_own 60 (Try.f49.body.getD .skip))
theorem in_r31_own_ok {ct : CT} (h : CTok Try.prog ct) : EntOk Try.prog f_r31_own (in_r31_own ct) := inl_ok tt_ok h 60 fn_r31_own rfl nt_r31_own rfl cal_r31_own (by kernel_rfl)
@[match_pattern] abbrev f_r29_Wait : Nat := 50
theorem fn_r29_Wait : Try.prog.funcs[f_r29_Wait]? = some Try.f50 := Try.func50
abbrev n_r29_Wait : Nat := 27
theorem nt_r29_Wait : Try.f50.ntmps = n_r29_Wait := Try.ntmps50
abbrev k_r29_Wait : List Nat := [0, 1, 2, 4, 5, 6, 9, 16]
abbrev rs_r29_Wait : List ResultVar := [.cell 4 32, .tmp 5, .tmp 6]
theorem cal_r29_Wait : Sx.Callee Try.prog f_r29_Wait := ⟨_, Try.func50, by kernel_rfl, by kernel_rfl⟩
noncomputable abbrev in_r29_Wait (ct : CT) : Ent := .st (inlS tt ct n_r29_Wait k_r29_Wait rs_r29_Wait 60 (Try.f50.body.getD .skip))
theorem in_r29_Wait_ok {ct : CT} (h : CTok Try.prog ct) : EntOk Try.prog f_r29_Wait (in_r29_Wait ct) := inl_ok tt_ok h 60 fn_r29_Wait rfl nt_r29_Wait rfl cal_r29_Wait (by kernel_rfl)
@[match_pattern] abbrev f_r03_Lies : Nat := 51
theorem fn_r03_Lies : Try.prog.funcs[f_r03_Lies]? = some Try.f51 := Try.func51
abbrev n_r03_Lies : Nat := 24
theorem nt_r03_Lies : Try.f51.ntmps = n_r03_Lies := Try.ntmps51
abbrev k_r03_Lies : List Nat := [0, 1, 2, 6, 7]
abbrev rs_r03_Lies : List ResultVar := [.tmp 6]
theorem cal_r03_Lies : Sx.Callee Try.prog f_r03_Lies := ⟨_, Try.func51, by kernel_rfl, by kernel_rfl⟩
noncomputable abbrev in_r03_Lies (ct : CT) : Ent := .st (inlS tt ct n_r03_Lies k_r03_Lies rs_r03_Lies 60 (Try.f51.body.getD .skip))
theorem in_r03_Lies_ok {ct : CT} (h : CTok Try.prog ct) : EntOk Try.prog f_r03_Lies (in_r03_Lies ct) := inl_ok tt_ok h 60 fn_r03_Lies rfl nt_r03_Lies rfl cal_r03_Lies (by kernel_rfl)
@[match_pattern] abbrev f_alt_words_store : Nat := 52
theorem fn_alt_words_store : Try.prog.funcs[f_alt_words_store]? = some Try.f52 := Try.func52
abbrev n_alt_words_store : Nat := 21
theorem nt_alt_words_store : Try.f52.ntmps = n_alt_words_store := Try.ntmps52
abbrev k_alt_words_store : List Nat := [0, 1, 2, 10]
abbrev rs_alt_words_store : List ResultVar := []
theorem cal_alt_words_store : Sx.Callee Try.prog f_alt_words_store := ⟨_, Try.func52, by kernel_rfl, by kernel_rfl⟩
noncomputable abbrev in_alt_words_store (ct : CT) : Ent := .st (inlS tt ct n_alt_words_store k_alt_words_store rs_alt_words_store 60 (Try.f52.body.getD .skip))
theorem in_alt_words_store_ok {ct : CT} (h : CTok Try.prog ct) : EntOk Try.prog f_alt_words_store (in_alt_words_store ct) := inl_ok tt_ok h 60 fn_alt_words_store rfl nt_alt_words_store rfl cal_alt_words_store (by kernel_rfl)
@[match_pattern] abbrev f_alt_machine_state : Nat := 53
theorem fn_alt_machine_state : Try.prog.funcs[f_alt_machine_state]? = some Try.f53 := Try.func53
abbrev n_alt_machine_state : Nat := 9
theorem nt_alt_machine_state : Try.f53.ntmps = n_alt_machine_state := Try.ntmps53
abbrev k_alt_machine_state : List Nat := [0, 2]
abbrev rs_alt_machine_state : List ResultVar := [.tmp 2]
theorem cal_alt_machine_state : Sx.Callee Try.prog f_alt_machine_state := ⟨_, Try.func53, by kernel_rfl, by kernel_rfl⟩
noncomputable abbrev in_alt_machine_state (ct : CT) : Ent := .st (inlS tt ct n_alt_machine_state k_alt_machine_state rs_alt_machine_state 60 (Try.f53.body.getD .skip))
theorem in_alt_machine_state_ok {ct : CT} (h : CTok Try.prog ct) : EntOk Try.prog f_alt_machine_state (in_alt_machine_state ct) := inl_ok tt_ok h 60 fn_alt_machine_state rfl nt_alt_machine_state rfl cal_alt_machine_state (by kernel_rfl)
@[match_pattern] abbrev f_alt_words_load : Nat := 54
theorem fn_alt_words_load : Try.prog.funcs[f_alt_words_load]? = some Try.f54 := Try.func54
abbrev n_alt_words_load : Nat := 26
theorem nt_alt_words_load : Try.f54.ntmps = n_alt_words_load := Try.ntmps54
abbrev k_alt_words_load : List Nat := [0, 1, 4, 5, 6, 20]
abbrev rs_alt_words_load : List ResultVar := [.tmp 4]
theorem cal_alt_words_load : Sx.Callee Try.prog f_alt_words_load := ⟨_, Try.func54, by kernel_rfl, by kernel_rfl⟩
noncomputable abbrev in_alt_words_load (ct : CT) : Ent := .st (inlS tt ct n_alt_words_load k_alt_words_load rs_alt_words_load 60 (Try.f54.body.getD .skip))
theorem in_alt_words_load_ok {ct : CT} (h : CTok Try.prog ct) : EntOk Try.prog f_alt_words_load (in_alt_words_load ct) := inl_ok tt_ok h 60 fn_alt_words_load rfl nt_alt_words_load rfl cal_alt_words_load (by kernel_rfl)
@[match_pattern] abbrev f_alt_machine_own : Nat := 55
theorem fn_alt_machine_own : Try.prog.funcs[f_alt_machine_own]? = some Try.f55 := Try.func55
abbrev n_alt_machine_own : Nat := 15
theorem nt_alt_machine_own : Try.f55.ntmps = n_alt_machine_own := Try.ntmps55
abbrev k_alt_machine_own : List Nat := [0, 2]
abbrev rs_alt_machine_own : List ResultVar := [.tmp 2]
theorem cal_alt_machine_own : Sx.Callee Try.prog f_alt_machine_own := ⟨_, Try.func55, by kernel_rfl, by kernel_rfl⟩
noncomputable abbrev in_alt_machine_own (ct : CT) : Ent := .st (inlS tt ct n_alt_machine_own k_alt_machine_own rs_alt_machine_own 60 (Try.f55.body.getD .skip))
theorem in_alt_machine_own_ok {ct : CT} (h : CTok Try.prog ct) : EntOk Try.prog f_alt_machine_own (in_alt_machine_own ct) := inl_ok tt_ok h 60 fn_alt_machine_own rfl nt_alt_machine_own rfl cal_alt_machine_own (by kernel_rfl)
@[match_pattern] abbrev f_sched_Wait : Nat := 56
theorem fn_sched_Wait : Try.prog.funcs[f_sched_Wait]? = some Try.f56 := Try.func56
abbrev n_sched_Wait : Nat := 31
theorem nt_sched_Wait : Try.f56.ntmps = n_sched_Wait := Try.ntmps56
abbrev k_sched_Wait : List Nat := [0, 1, 2, 4, 5, 6, 10, 15]
abbrev rs_sched_Wait : List ResultVar := [.cell 4 32, .tmp 5]
theorem cal_sched_Wait : Sx.Callee Try.prog f_sched_Wait := ⟨_, Try.func56, by kernel_rfl, by kernel_rfl⟩
noncomputable abbrev in_sched_Wait (ct : CT) : Ent := .st (inlS tt ct n_sched_Wait k_sched_Wait rs_sched_Wait 60 (Try.f56.body.getD .skip))
theorem in_sched_Wait_ok {ct : CT} (h : CTok Try.prog ct) : EntOk Try.prog f_sched_Wait (in_sched_Wait ct) := inl_ok tt_ok h 60 fn_sched_Wait rfl nt_sched_Wait rfl cal_sched_Wait (by kernel_rfl)
@[match_pattern] abbrev f_alt_machine_choose : Nat := 57
theorem fn_alt_machine_choose : Try.prog.funcs[f_alt_machine_choose]? = some Try.f57 := Try.func57
abbrev n_alt_machine_choose : Nat := 32
theorem nt_alt_machine_choose : Try.f57.ntmps = n_alt_machine_choose := Try.ntmps57
abbrev k_alt_machine_choose : List Nat := [0, 1, 17]
abbrev rs_alt_machine_choose : List ResultVar := []
theorem cal_alt_machine_choose : Sx.Callee Try.prog f_alt_machine_choose := ⟨_, Try.func57, by kernel_rfl, by kernel_rfl⟩
noncomputable abbrev in_alt_machine_choose (ct : CT) : Ent := .st (inlS tt ct n_alt_machine_choose k_alt_machine_choose rs_alt_machine_choose 60 (Try.f57.body.getD .skip))
theorem in_alt_machine_choose_ok {ct : CT} (h : CTok Try.prog ct) : EntOk Try.prog f_alt_machine_choose (in_alt_machine_choose ct) := inl_ok tt_ok h 60 fn_alt_machine_choose rfl nt_alt_machine_choose rfl cal_alt_machine_choose (by kernel_rfl)
@[match_pattern] abbrev f_r03_put : Nat := 58
theorem fn_r03_put : Try.prog.funcs[f_r03_put]? = some Try.f58 := Try.func58
abbrev n_r03_put : Nat := 24
theorem nt_r03_put : Try.f58.ntmps = n_r03_put := Try.ntmps58
abbrev k_r03_put : List Nat := [0, 1, 2, 6, 7]
abbrev rs_r03_put : List ResultVar := [.tmp 6]
theorem cal_r03_put : Sx.Callee Try.prog f_r03_put := ⟨_, Try.func58, by kernel_rfl, by kernel_rfl⟩
noncomputable abbrev in_r03_put (ct : CT) : Ent := .st (inlS tt ct n_r03_put k_r03_put rs_r03_put 60 (Try.f58.body.getD .skip))
theorem in_r03_put_ok {ct : CT} (h : CTok Try.prog ct) : EntOk Try.prog f_r03_put (in_r03_put ct) := inl_ok tt_ok h 60 fn_r03_put rfl nt_r03_put rfl cal_r03_put (by kernel_rfl)
@[match_pattern] abbrev f_r03_Four : Nat := 59
theorem fn_r03_Four : Try.prog.funcs[f_r03_Four]? = some Try.f59 := Try.func59
abbrev n_r03_Four : Nat := 18
theorem nt_r03_Four : Try.f59.ntmps = n_r03_Four := Try.ntmps59
abbrev k_r03_Four : List Nat := [0, 2, 3]
abbrev rs_r03_Four : List ResultVar := [.tmp 2]
theorem cal_r03_Four : Sx.Callee Try.prog f_r03_Four := ⟨_, Try.func59, by kernel_rfl, by kernel_rfl⟩
noncomputable abbrev in_r03_Four (ct : CT) : Ent := .st (inlS tt ct n_r03_Four k_r03_Four rs_r03_Four 60 (Try.f59.body.getD .skip))
theorem in_r03_Four_ok {ct : CT} (h : CTok Try.prog ct) : EntOk Try.prog f_r03_Four (in_r03_Four ct) := inl_ok tt_ok h 60 fn_r03_Four rfl nt_r03_Four rfl cal_r03_Four (by kernel_rfl)
@[match_pattern] abbrev f_r29_Valid : Nat := 60
theorem fn_r29_Valid : Try.prog.funcs[f_r29_Valid]? = some Try.f60 := Try.func60
abbrev n_r29_Valid : Nat := 19
theorem nt_r29_Valid : Try.f60.ntmps = n_r29_Valid := Try.ntmps60
abbrev k_r29_Valid : List Nat := [0, 1, 4]
abbrev rs_r29_Valid : List ResultVar := [.tmp 4]
theorem cal_r29_Valid : Sx.Callee Try.prog f_r29_Valid := ⟨_, Try.func60, by kernel_rfl, by kernel_rfl⟩
noncomputable abbrev in_r29_Valid (ct : CT) : Ent := .st (inlS tt ct n_r29_Valid k_r29_Valid rs_r29_Valid 60 (Try.f60.body.getD .skip))
theorem in_r29_Valid_ok {ct : CT} (h : CTok Try.prog ct) : EntOk Try.prog f_r29_Valid (in_r29_Valid ct) := inl_ok tt_ok h 60 fn_r29_Valid rfl nt_r29_Valid rfl cal_r29_Valid (by kernel_rfl)
@[match_pattern] abbrev f_r29_Nobody : Nat := 61
theorem fn_r29_Nobody : Try.prog.funcs[f_r29_Nobody]? = some Try.f61 := Try.func61
abbrev n_r29_Nobody : Nat := 13
theorem nt_r29_Nobody : Try.f61.ntmps = n_r29_Nobody := Try.ntmps61
abbrev k_r29_Nobody : List Nat := [0, 1, 2]
abbrev rs_r29_Nobody : List ResultVar := [.cell 2 32]
theorem cal_r29_Nobody : Sx.Callee Try.prog f_r29_Nobody := ⟨_, Try.func61, by kernel_rfl, by kernel_rfl⟩
noncomputable abbrev in_r29_Nobody (ct : CT) : Ent := .st (inlS tt ct n_r29_Nobody k_r29_Nobody rs_r29_Nobody 60 (Try.f61.body.getD .skip))
theorem in_r29_Nobody_ok {ct : CT} (h : CTok Try.prog ct) : EntOk Try.prog f_r29_Nobody (in_r29_Nobody ct) := inl_ok tt_ok h 60 fn_r29_Nobody rfl nt_r29_Nobody rfl cal_r29_Nobody (by kernel_rfl)
@[match_pattern] abbrev f_r29_Set : Nat := 62
theorem fn_r29_Set : Try.prog.funcs[f_r29_Set]? = some Try.f62 := Try.func62
abbrev n_r29_Set : Nat := 22
theorem nt_r29_Set : Try.f62.ntmps = n_r29_Set := Try.ntmps62
abbrev k_r29_Set : List Nat := [0, 1, 2, 3, 8, 9]
abbrev rs_r29_Set : List ResultVar := [.tmp 8]
theorem cal_r29_Set : Sx.Callee Try.prog f_r29_Set := ⟨_, Try.func62, by kernel_rfl, by kernel_rfl⟩
noncomputable abbrev in_r29_Set (ct : CT) : Ent := .st (inlS tt ct n_r29_Set k_r29_Set rs_r29_Set 60 (Try.f62.body.getD .skip))
theorem in_r29_Set_ok {ct : CT} (h : CTok Try.prog ct) : EntOk Try.prog f_r29_Set (in_r29_Set ct) := inl_ok tt_ok h 60 fn_r29_Set rfl nt_r29_Set rfl cal_r29_Set (by kernel_rfl)
@[match_pattern] abbrev f_sched_none : Nat := 63
theorem fn_sched_none : Try.prog.funcs[f_sched_none]? = some Try.f63 := Try.func63
abbrev n_sched_none : Nat := 6
theorem nt_sched_none : Try.f63.ntmps = n_sched_none := Try.ntmps63
abbrev k_sched_none : List Nat := [0, 2]
abbrev rs_sched_none : List ResultVar := [.tmp 2]
theorem cal_sched_none : Sx.Callee Try.prog f_sched_none := ⟨_, Try.func63, by kernel_rfl, by kernel_rfl⟩
noncomputable abbrev in_sched_none (ct : CT) : Ent := .st (inlS tt ct n_sched_none k_sched_none rs_sched_none 60 (Try.f63.body.getD .skip))
theorem in_sched_none_ok {ct : CT} (h : CTok Try.prog ct) : EntOk Try.prog f_sched_none (in_sched_none ct) := inl_ok tt_ok h 60 fn_sched_none rfl nt_sched_none rfl cal_sched_none (by kernel_rfl)
@[match_pattern] abbrev f_sched_valid : Nat := 64
theorem fn_sched_valid : Try.prog.funcs[f_sched_valid]? = some Try.f64 := Try.func64
abbrev n_sched_valid : Nat := 23
theorem nt_sched_valid : Try.f64.ntmps = n_sched_valid := Try.ntmps64
abbrev k_sched_valid : List Nat := [0, 1, 4, 5]
abbrev rs_sched_valid : List ResultVar := [.tmp 4]
theorem cal_sched_valid : Sx.Callee Try.prog f_sched_valid := ⟨_, Try.func64, by kernel_rfl, by kernel_rfl⟩
noncomputable abbrev in_sched_valid (ct : CT) : Ent := .st (inlS tt ct n_sched_valid k_sched_valid rs_sched_valid 60 (Try.f64.body.getD .skip))
theorem in_sched_valid_ok {ct : CT} (h : CTok Try.prog ct) : EntOk Try.prog f_sched_valid (in_sched_valid ct) := inl_ok tt_ok h 60 fn_sched_valid rfl nt_sched_valid rfl cal_sched_valid (by kernel_rfl)
@[match_pattern] abbrev f_sched_nobody : Nat := 65
theorem fn_sched_nobody : Try.prog.funcs[f_sched_nobody]? = some Try.f65 := Try.func65
abbrev n_sched_nobody : Nat := 13
theorem nt_sched_nobody : Try.f65.ntmps = n_sched_nobody := Try.ntmps65
abbrev k_sched_nobody : List Nat := [0, 1, 2]
abbrev rs_sched_nobody : List ResultVar := [.cell 2 32]
theorem cal_sched_nobody : Sx.Callee Try.prog f_sched_nobody := ⟨_, Try.func65, by kernel_rfl, by kernel_rfl⟩
noncomputable abbrev in_sched_nobody (ct : CT) : Ent := .st (inlS tt ct n_sched_nobody k_sched_nobody rs_sched_nobody 60 (Try.f65.body.getD .skip))
theorem in_sched_nobody_ok {ct : CT} (h : CTok Try.prog ct) : EntOk Try.prog f_sched_nobody (in_sched_nobody ct) := inl_ok tt_ok h 60 fn_sched_nobody rfl nt_sched_nobody rfl cal_sched_nobody (by kernel_rfl)
end Go.Proofs
