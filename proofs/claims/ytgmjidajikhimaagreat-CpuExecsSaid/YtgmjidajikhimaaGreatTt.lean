/- Types, slots and numbers of this seat's functions (printed by a program). -/
import Derived.Test.YtgmjidajikhimaaGreatSxC
import Derived.Test.YtgmjidajikhimaaGreatProg

namespace Go.Proofs
open Go Go.Sx
def ti2 : TI := { size := 1, zv := .int .i64 0, agg := false, kd := .int .i64 }
theorem tok2 : TIok Tryz.prog 2 ti2 := ⟨by kernel_rfl, by kernel_rfl, by kernel_rfl, by kernel_rfl, fun _ h => by cases h⟩
def ti3 : TI := { size := 1, zv := .int .i64 0, agg := false, kd := .int .i64 }
theorem tok3 : TIok Tryz.prog 3 ti3 := ⟨by kernel_rfl, by kernel_rfl, by kernel_rfl, by kernel_rfl, fun _ h => by cases h⟩
def ti4 : TI := { size := 1, zv := .bool false, agg := false, kd := .bool }
theorem tok4 : TIok Tryz.prog 4 ti4 := ⟨by kernel_rfl, by kernel_rfl, by kernel_rfl, by kernel_rfl, fun _ h => by cases h⟩
def ti5 : TI := { size := 1, zv := .int .u8 0, agg := false, kd := .int .u8 }
theorem tok5 : TIok Tryz.prog 5 ti5 := ⟨by kernel_rfl, by kernel_rfl, by kernel_rfl, by kernel_rfl, fun _ h => by cases h⟩
def ti9 : TI := { size := 1, zv := .string ByteArray.empty, agg := false, kd := .str }
theorem tok9 : TIok Tryz.prog 9 ti9 := ⟨by kernel_rfl, by kernel_rfl, by kernel_rfl, by kernel_rfl, fun _ h => by cases h⟩
def ti21 : TI := { size := 1, zv := .int .i32 0, agg := false, kd := .int .i32 }
theorem tok21 : TIok Tryz.prog 21 ti21 := ⟨by kernel_rfl, by kernel_rfl, by kernel_rfl, by kernel_rfl, fun _ h => by cases h⟩
def ti22 : TI := { size := 2, zv := .agg #[.int .i32 0, .int .i32 0], agg := true, kd := .arr 2 1 false }
theorem tok22 : TIok Tryz.prog 22 ti22 := ⟨by kernel_rfl, by kernel_rfl, by kernel_rfl, by kernel_rfl, fun _ h => by cases h⟩
def ti24 : TI := { size := 8, zv := .agg #[.bool false, .int .i32 0, .int .i32 0, .int .i32 0, .int .i32 0, .int .i32 0, .bool false, .int .i32 0], agg := true, kd := .struct [(0, (1, false)), (1, (1, false)), (2, (1, false)), (3, (1, false)), (4, (1, false)), (5, (1, false)), (6, (1, false)), (7, (1, false))] }
theorem tok24 : TIok Tryz.prog 24 ti24 := ⟨by kernel_rfl, by kernel_rfl, by kernel_rfl, by kernel_rfl, fun _ h => by cases h⟩
def ti26 : TI := { size := 28, zv := .agg #[.int .i32 0, .int .i32 0, .int .i32 0, .int .i32 0, .int .i32 0, .int .i64 0, .bool false, .bool false, .bool false, .bool false, .int .i32 0, .int .i32 0, .int .i32 0, .int .i32 0, .int .i32 0, .int .i32 0, .int .i32 0, .int .i32 0, .int .i32 0, .int .i32 0, .bool false, .int .i32 0, .int .i32 0, .int .i32 0, .int .i32 0, .int .i32 0, .bool false, .int .i32 0], agg := true, kd := .struct [(0, (1, false)), (1, (1, false)), (2, (1, false)), (3, (1, false)), (4, (1, false)), (5, (1, false)), (6, (1, false)), (7, (1, false)), (8, (1, false)), (9, (1, false)), (10, (2, true)), (12, (2, true)), (14, (2, true)), (16, (2, true)), (18, (1, false)), (19, (1, false)), (20, (8, true))], flat := some [some .i32, some .i32, some .i32, some .i32, some .i32, some .i64, none, none, none, none, some .i32, some .i32, some .i32, some .i32, some .i32, some .i32, some .i32, some .i32, some .i32, some .i32, none, some .i32, some .i32, some .i32, some .i32, some .i32, none, some .i32] }
theorem tok26 : TIok Tryz.prog 26 ti26 := ⟨by kernel_rfl, by kernel_rfl, by kernel_rfl, by kernel_rfl, fun _ h => by cases h; exact flatEq_of (by kernel_rfl) (by kernel_rfl) (by kernel_rfl)⟩
def ti27 : TI := { size := 1, zv := .slice none 0 0, agg := false, kd := .slice 5 1 1 }
theorem tok27 : TIok Tryz.prog 27 ti27 := ⟨by kernel_rfl, by kernel_rfl, by kernel_rfl, by kernel_rfl, fun _ h => by cases h⟩
def ti29 : TI := { size := 2, zv := .agg #[.int .u8 0, .int .i32 0], agg := true, kd := .struct [(0, (1, false)), (1, (1, false))], flat := some [some .u8, some .i32] }
theorem tok29 : TIok Tryz.prog 29 ti29 := ⟨by kernel_rfl, by kernel_rfl, by kernel_rfl, by kernel_rfl, fun _ h => by cases h; exact flatEq_of (by kernel_rfl) (by kernel_rfl) (by kernel_rfl)⟩
def ti31 : TI := { size := 6, zv := .agg #[.int .u8 0, .int .i32 0, .int .u8 0, .int .i32 0, .int .u8 0, .int .i32 0], agg := true, kd := .arr 3 2 true }
theorem tok31 : TIok Tryz.prog 31 ti31 := ⟨by kernel_rfl, by kernel_rfl, by kernel_rfl, by kernel_rfl, fun _ h => by cases h⟩
def ti32 : TI := { size := 1, zv := .pointer none, agg := false, kd := .ptr }
theorem tok32 : TIok Tryz.prog 32 ti32 := ⟨by kernel_rfl, by kernel_rfl, by kernel_rfl, by kernel_rfl, fun _ h => by cases h⟩
def ti33 : TI := { size := 1, zv := .int .i64 0, agg := false, kd := .int .i64 }
theorem tok33 : TIok Tryz.prog 33 ti33 := ⟨by kernel_rfl, by kernel_rfl, by kernel_rfl, by kernel_rfl, fun _ h => by cases h⟩
def ti51 : TI := { size := 1, zv := .int .u64 0, agg := false, kd := .int .u64 }
theorem tok51 : TIok Tryz.prog 51 ti51 := ⟨by kernel_rfl, by kernel_rfl, by kernel_rfl, by kernel_rfl, fun _ h => by cases h⟩
def ti52 : TI := { size := 1, zv := .int .u32 0, agg := false, kd := .int .u32 }
theorem tok52 : TIok Tryz.prog 52 ti52 := ⟨by kernel_rfl, by kernel_rfl, by kernel_rfl, by kernel_rfl, fun _ h => by cases h⟩
def ti53 : TI := { size := 1, zv := .int .u64 0, agg := false, kd := .int .u64 }
theorem tok53 : TIok Tryz.prog 53 ti53 := ⟨by kernel_rfl, by kernel_rfl, by kernel_rfl, by kernel_rfl, fun _ h => by cases h⟩
def ti54 : TI := { size := 1, zv := .nilFunc, agg := false, kd := .fn }
theorem tok54 : TIok Tryz.prog 54 ti54 := ⟨by kernel_rfl, by kernel_rfl, by kernel_rfl, by kernel_rfl, fun _ h => by cases h⟩
def ti63 : TI := { size := 1, zv := .agg #[.slice none 0 0], agg := true, kd := .struct [(0, (1, false))] }
theorem tok63 : TIok Tryz.prog 63 ti63 := ⟨by kernel_rfl, by kernel_rfl, by kernel_rfl, by kernel_rfl, fun _ h => by cases h⟩
def ti65 : TI := { size := 1, zv := .pointer none, agg := false, kd := .ptr }
theorem tok65 : TIok Tryz.prog 65 ti65 := ⟨by kernel_rfl, by kernel_rfl, by kernel_rfl, by kernel_rfl, fun _ h => by cases h⟩
def ti67 : TI := { size := 30, zv := .agg #[.int .i32 0, .int .i32 0, .int .i32 0, .int .i32 0, .int .i32 0, .int .i64 0, .bool false, .bool false, .bool false, .bool false, .int .i32 0, .int .i32 0, .int .i32 0, .int .i32 0, .int .i32 0, .int .i32 0, .int .i32 0, .int .i32 0, .int .i32 0, .int .i32 0, .bool false, .int .i32 0, .int .i32 0, .int .i32 0, .int .i32 0, .int .i32 0, .bool false, .int .i32 0, .pointer none, .int .i64 0], agg := true, kd := .struct [(0, (28, true)), (28, (1, false)), (29, (1, false))] }
theorem tok67 : TIok Tryz.prog 67 ti67 := ⟨by kernel_rfl, by kernel_rfl, by kernel_rfl, by kernel_rfl, fun _ h => by cases h⟩
def ti69 : TI := { size := 1, zv := .nilFunc, agg := false, kd := .fn }
theorem tok69 : TIok Tryz.prog 69 ti69 := ⟨by kernel_rfl, by kernel_rfl, by kernel_rfl, by kernel_rfl, fun _ h => by cases h⟩
def ti73 : TI := { size := 1, zv := .nilFunc, agg := false, kd := .fn }
theorem tok73 : TIok Tryz.prog 73 ti73 := ⟨by kernel_rfl, by kernel_rfl, by kernel_rfl, by kernel_rfl, fun _ h => by cases h⟩
def ti74 : TI := { size := 1, zv := .map none, agg := false, kd := .mapi .i32 (.nilFunc) }
theorem tok74 : TIok Tryz.prog 74 ti74 := ⟨by kernel_rfl, by kernel_rfl, by kernel_rfl, by kernel_rfl, fun _ h => by cases h⟩
def ti83 : TI := { size := 1, zv := .slice none 0 0, agg := false, kd := .slice 21 1 4 }
theorem tok83 : TIok Tryz.prog 83 ti83 := ⟨by kernel_rfl, by kernel_rfl, by kernel_rfl, by kernel_rfl, fun _ h => by cases h⟩
def ti86 : TI := { size := 1, zv := .slice none 0 0, agg := false, kd := .slice 29 2 8 }
theorem tok86 : TIok Tryz.prog 86 ti86 := ⟨by kernel_rfl, by kernel_rfl, by kernel_rfl, by kernel_rfl, fun _ h => by cases h⟩
def ti94 : TI := { size := 1, zv := .nilFunc, agg := false, kd := .fn }
theorem tok94 : TIok Tryz.prog 94 ti94 := ⟨by kernel_rfl, by kernel_rfl, by kernel_rfl, by kernel_rfl, fun _ h => by cases h⟩
def ti118 : TI := { size := 4, zv := .agg #[.int .i32 0, .int .i32 0, .int .i32 0, .int .i32 0], agg := true, kd := .arr 4 1 false }
theorem tok118 : TIok Tryz.prog 118 ti118 := ⟨by kernel_rfl, by kernel_rfl, by kernel_rfl, by kernel_rfl, fun _ h => by cases h⟩
def ti130 : TI := { size := 1, zv := .slice none 0 0, agg := false, kd := .slice 3 1 8 }
theorem tok130 : TIok Tryz.prog 130 ti130 := ⟨by kernel_rfl, by kernel_rfl, by kernel_rfl, by kernel_rfl, fun _ h => by cases h⟩
def ti142 : TI := { size := 2, zv := .agg #[.int .u32 0, .int .u32 0], agg := true, kd := .struct [(0, (1, false)), (1, (1, false))], flat := some [some .u32, some .u32] }
theorem tok142 : TIok Tryz.prog 142 ti142 := ⟨by kernel_rfl, by kernel_rfl, by kernel_rfl, by kernel_rfl, fun _ h => by cases h; exact flatEq_of (by kernel_rfl) (by kernel_rfl) (by kernel_rfl)⟩
def ti145 : TI := { size := 1, zv := .nilFunc, agg := false, kd := .fn }
theorem tok145 : TIok Tryz.prog 145 ti145 := ⟨by kernel_rfl, by kernel_rfl, by kernel_rfl, by kernel_rfl, fun _ h => by cases h⟩
abbrev tt : TT := [(2, ti2), (3, ti3), (4, ti4), (5, ti5), (9, ti9), (21, ti21), (22, ti22), (24, ti24), (26, ti26), (27, ti27), (29, ti29), (31, ti31), (32, ti32), (33, ti33), (51, ti51), (52, ti52), (53, ti53), (54, ti54), (63, ti63), (65, ti65), (67, ti67), (69, ti69), (73, ti73), (74, ti74), (83, ti83), (86, ti86), (94, ti94), (118, ti118), (130, ti130), (142, ti142), (145, ti145)]
theorem tt_ok : TTok Tryz.prog tt := ⟨tok2, tok3, tok4, tok5, tok9, tok21, tok22, tok24, tok26, tok27, tok29, tok31, tok32, tok33, tok51, tok52, tok53, tok54, tok63, tok65, tok67, tok69, tok73, tok74, tok83, tok86, tok94, tok118, tok130, tok142, tok145, (show Tryz.prog.follows .mixedOrders = true by kernel_rfl)⟩
@[match_pattern] abbrev f_l28_CpuExecs : Nat := 3
theorem fn_l28_CpuExecs : Tryz.prog.funcs[f_l28_CpuExecs]? = some Tryz.f3 := Tryz.func3
abbrev n_l28_CpuExecs : Nat := 101
theorem nt_l28_CpuExecs : Tryz.f3.ntmps = n_l28_CpuExecs := Tryz.ntmps3
abbrev k_l28_CpuExecs : List Nat := [0, 1, 2, 3, 4, 5, 7, 10, 11, 12, 13, 14, 15, 16, 17, 18, 19, 20, 21, 23, 42, 43, 44, 49, 57, 88]
abbrev rs_l28_CpuExecs : List ResultVar := [.tmp 10]
theorem cal_l28_CpuExecs : Sx.Callee Tryz.prog f_l28_CpuExecs := ⟨_, Tryz.func3, by kernel_rfl, by kernel_rfl⟩
noncomputable abbrev in_l28_CpuExecs (ct : CT) : Ent := .st (inlS tt ct n_l28_CpuExecs k_l28_CpuExecs rs_l28_CpuExecs 60 (Tryz.f3.body.getD .skip))
theorem in_l28_CpuExecs_ok {ct : CT} (h : CTok Tryz.prog ct) : EntOk Tryz.prog f_l28_CpuExecs (in_l28_CpuExecs ct) := inl_ok tt_ok h 60 fn_l28_CpuExecs rfl nt_l28_CpuExecs rfl cal_l28_CpuExecs (by kernel_rfl)
@[match_pattern] abbrev f_l28_CpuQuiet : Nat := 4
theorem fn_l28_CpuQuiet : Tryz.prog.funcs[f_l28_CpuQuiet]? = some Tryz.f4 := Tryz.func4
abbrev n_l28_CpuQuiet : Nat := 119
theorem nt_l28_CpuQuiet : Tryz.f4.ntmps = n_l28_CpuQuiet := Tryz.ntmps4
abbrev k_l28_CpuQuiet : List Nat := [0, 1, 2, 3, 5, 6, 7, 9, 10, 11, 12, 13, 14, 40, 42, 43, 44, 54, 59, 90]
abbrev rs_l28_CpuQuiet : List ResultVar := [.tmp 6]
theorem cal_l28_CpuQuiet : Sx.Callee Tryz.prog f_l28_CpuQuiet := ⟨_, Tryz.func4, by kernel_rfl, by kernel_rfl⟩
noncomputable abbrev in_l28_CpuQuiet (ct : CT) : Ent := .st (inlS tt ct n_l28_CpuQuiet k_l28_CpuQuiet rs_l28_CpuQuiet 60 (Tryz.f4.body.getD .skip))
theorem in_l28_CpuQuiet_ok {ct : CT} (h : CTok Tryz.prog ct) : EntOk Tryz.prog f_l28_CpuQuiet (in_l28_CpuQuiet ct) := inl_ok tt_ok h 60 fn_l28_CpuQuiet rfl nt_l28_CpuQuiet rfl cal_l28_CpuQuiet (by kernel_rfl)
@[match_pattern] abbrev f_l28_CpuMine : Nat := 5
theorem fn_l28_CpuMine : Tryz.prog.funcs[f_l28_CpuMine]? = some Tryz.f5 := Tryz.func5
abbrev n_l28_CpuMine : Nat := 24
theorem nt_l28_CpuMine : Tryz.f5.ntmps = n_l28_CpuMine := Tryz.ntmps5
abbrev k_l28_CpuMine : List Nat := [0, 1, 2, 4, 5]
abbrev rs_l28_CpuMine : List ResultVar := [.tmp 4]
theorem cal_l28_CpuMine : Sx.Callee Tryz.prog f_l28_CpuMine := ⟨_, Tryz.func5, by kernel_rfl, by kernel_rfl⟩
noncomputable abbrev in_l28_CpuMine (ct : CT) : Ent := .st (inlS tt ct n_l28_CpuMine k_l28_CpuMine rs_l28_CpuMine 60 (Tryz.f5.body.getD .skip))
theorem in_l28_CpuMine_ok {ct : CT} (h : CTok Tryz.prog ct) : EntOk Tryz.prog f_l28_CpuMine (in_l28_CpuMine ct) := inl_ok tt_ok h 60 fn_l28_CpuMine rfl nt_l28_CpuMine rfl cal_l28_CpuMine (by kernel_rfl)
@[match_pattern] abbrev f_l28_CpuCalls : Nat := 6
theorem fn_l28_CpuCalls : Tryz.prog.funcs[f_l28_CpuCalls]? = some Tryz.f6 := Tryz.func6
abbrev n_l28_CpuCalls : Nat := 151
theorem nt_l28_CpuCalls : Tryz.f6.ntmps = n_l28_CpuCalls := Tryz.ntmps6
abbrev k_l28_CpuCalls : List Nat := [0, 1, 2, 3, 4, 5, 10, 11, 12, 13, 14, 15, 16, 17, 64, 97]
abbrev rs_l28_CpuCalls : List ResultVar := [.tmp 10]
theorem cal_l28_CpuCalls : Sx.Callee Tryz.prog f_l28_CpuCalls := ⟨_, Tryz.func6, by kernel_rfl, by kernel_rfl⟩
noncomputable abbrev in_l28_CpuCalls (ct : CT) : Ent := .st (inlS tt ct n_l28_CpuCalls k_l28_CpuCalls rs_l28_CpuCalls 60 (Tryz.f6.body.getD .skip))
theorem in_l28_CpuCalls_ok {ct : CT} (h : CTok Tryz.prog ct) : EntOk Tryz.prog f_l28_CpuCalls (in_l28_CpuCalls ct) := inl_ok tt_ok h 60 fn_l28_CpuCalls rfl nt_l28_CpuCalls rfl cal_l28_CpuCalls (by kernel_rfl)
@[match_pattern] abbrev f_l28_CpuDouble : Nat := 7
theorem fn_l28_CpuDouble : Tryz.prog.funcs[f_l28_CpuDouble]? = some Tryz.f7 := Tryz.func7
abbrev n_l28_CpuDouble : Nat := 125
theorem nt_l28_CpuDouble : Tryz.f7.ntmps = n_l28_CpuDouble := Tryz.ntmps7
abbrev k_l28_CpuDouble : List Nat := [0, 1, 2, 3, 8, 9, 10, 11, 12, 13, 14, 15, 16, 17, 18, 19, 20, 21, 30, 31, 32, 66, 84]
abbrev rs_l28_CpuDouble : List ResultVar := [.tmp 8]
theorem cal_l28_CpuDouble : Sx.Callee Tryz.prog f_l28_CpuDouble := ⟨_, Tryz.func7, by kernel_rfl, by kernel_rfl⟩
noncomputable abbrev in_l28_CpuDouble (ct : CT) : Ent := .st (inlS tt ct n_l28_CpuDouble k_l28_CpuDouble rs_l28_CpuDouble 60 (Tryz.f7.body.getD .skip))
theorem in_l28_CpuDouble_ok {ct : CT} (h : CTok Tryz.prog ct) : EntOk Tryz.prog f_l28_CpuDouble (in_l28_CpuDouble ct) := inl_ok tt_ok h 60 fn_l28_CpuDouble rfl nt_l28_CpuDouble rfl cal_l28_CpuDouble (by kernel_rfl)
@[match_pattern] abbrev f_l28_CpuLoop : Nat := 8
theorem fn_l28_CpuLoop : Tryz.prog.funcs[f_l28_CpuLoop]? = some Tryz.f8 := Tryz.func8
abbrev n_l28_CpuLoop : Nat := 101
theorem nt_l28_CpuLoop : Tryz.f8.ntmps = n_l28_CpuLoop := Tryz.ntmps8
abbrev k_l28_CpuLoop : List Nat := [0, 1, 2, 6, 7, 8, 9, 10, 11, 12, 13, 15, 30, 32, 58, 69, 80]
abbrev rs_l28_CpuLoop : List ResultVar := [.tmp 6]
theorem cal_l28_CpuLoop : Sx.Callee Tryz.prog f_l28_CpuLoop := ⟨_, Tryz.func8, by kernel_rfl, by kernel_rfl⟩
noncomputable abbrev in_l28_CpuLoop (ct : CT) : Ent := .st (inlS tt ct n_l28_CpuLoop k_l28_CpuLoop rs_l28_CpuLoop 60 (Tryz.f8.body.getD .skip))
theorem in_l28_CpuLoop_ok {ct : CT} (h : CTok Tryz.prog ct) : EntOk Tryz.prog f_l28_CpuLoop (in_l28_CpuLoop ct) := inl_ok tt_ok h 60 fn_l28_CpuLoop rfl nt_l28_CpuLoop rfl cal_l28_CpuLoop (by kernel_rfl)
@[match_pattern] abbrev f_l28_CpuKnown : Nat := 9
theorem fn_l28_CpuKnown : Tryz.prog.funcs[f_l28_CpuKnown]? = some Tryz.f9 := Tryz.func9
abbrev n_l28_CpuKnown : Nat := 324
theorem nt_l28_CpuKnown : Tryz.f9.ntmps = n_l28_CpuKnown := Tryz.ntmps9
abbrev k_l28_CpuKnown : List Nat := [0, 1, 2, 3, 4, 5, 7, 8, 9, 11, 13, 15, 17, 19, 20, 22, 23, 25, 26, 28, 29, 30, 32, 33, 34, 35, 36, 37, 38]
abbrev rs_l28_CpuKnown : List ResultVar := [.tmp 0]
theorem cal_l28_CpuKnown : Sx.Callee Tryz.prog f_l28_CpuKnown := ⟨_, Tryz.func9, by kernel_rfl, by kernel_rfl⟩
noncomputable abbrev in_l28_CpuKnown (ct : CT) : Ent := .st (inlS tt ct n_l28_CpuKnown k_l28_CpuKnown rs_l28_CpuKnown 60 (Tryz.f9.body.getD .skip))
theorem in_l28_CpuKnown_ok {ct : CT} (h : CTok Tryz.prog ct) : EntOk Tryz.prog f_l28_CpuKnown (in_l28_CpuKnown ct) := inl_ok tt_ok h 60 fn_l28_CpuKnown rfl nt_l28_CpuKnown rfl cal_l28_CpuKnown (by kernel_rfl)
@[match_pattern] abbrev f_l28_memory : Nat := 10
theorem fn_l28_memory : Tryz.prog.funcs[f_l28_memory]? = some Tryz.f10 := Tryz.func10
abbrev n_l28_memory : Nat := 18
theorem nt_l28_memory : Tryz.f10.ntmps = n_l28_memory := Tryz.ntmps10
abbrev k_l28_memory : List Nat := [0, 2, 3, 13]
abbrev rs_l28_memory : List ResultVar := [.tmp 2]
theorem cal_l28_memory : Sx.Callee Tryz.prog f_l28_memory := ⟨_, Tryz.func10, by kernel_rfl, by kernel_rfl⟩
noncomputable abbrev in_l28_memory (ct : CT) : Ent := .st (inlS tt ct n_l28_memory k_l28_memory rs_l28_memory 60 (Tryz.f10.body.getD .skip))
theorem in_l28_memory_ok {ct : CT} (h : CTok Tryz.prog ct) : EntOk Tryz.prog f_l28_memory (in_l28_memory ct) := inl_ok tt_ok h 60 fn_l28_memory rfl nt_l28_memory rfl cal_l28_memory (by kernel_rfl)
@[match_pattern] abbrev f_mem_From : Nat := 11
theorem fn_mem_From : Tryz.prog.funcs[f_mem_From]? = some Tryz.f11 := Tryz.func11
abbrev n_mem_From : Nat := 21
theorem nt_mem_From : Tryz.f11.ntmps = n_mem_From := Tryz.ntmps11
abbrev k_mem_From : List Nat := [0, 2, 3, 4, 8]
abbrev rs_mem_From : List ResultVar := [.tmp 2, .tmp 3]
theorem cal_mem_From : Sx.Callee Tryz.prog f_mem_From := ⟨_, Tryz.func11, by kernel_rfl, by kernel_rfl⟩
noncomputable abbrev in_mem_From (ct : CT) : Ent := .st (inlS tt ct n_mem_From k_mem_From rs_mem_From 60 (Tryz.f11.body.getD .skip))
theorem in_mem_From_ok {ct : CT} (h : CTok Tryz.prog ct) : EntOk Tryz.prog f_mem_From (in_mem_From ct) := inl_ok tt_ok h 60 fn_mem_From rfl nt_mem_From rfl cal_mem_From (by kernel_rfl)
@[match_pattern] abbrev f_cpu_Exec : Nat := 12
theorem fn_cpu_Exec : Tryz.prog.funcs[f_cpu_Exec]? = some Tryz.f12 := Tryz.func12
abbrev n_cpu_Exec : Nat := 90
theorem nt_cpu_Exec : Tryz.f12.ntmps = n_cpu_Exec := Tryz.ntmps12
abbrev k_cpu_Exec : List Nat := [0, 1, 2, 3, 5, 6, 7, 8, 9, 10, 11, 12, 17, 23, 28, 39, 50, 84]
abbrev rs_cpu_Exec : List ResultVar := [.cell 6 26, .tmp 7]
theorem cal_cpu_Exec : Sx.Callee Tryz.prog f_cpu_Exec := ⟨_, Tryz.func12, by kernel_rfl, by kernel_rfl⟩
noncomputable abbrev in_cpu_Exec (ct : CT) : Ent := .st (inlS tt ct n_cpu_Exec k_cpu_Exec rs_cpu_Exec 60 (Tryz.f12.body.getD .skip))
theorem in_cpu_Exec_ok {ct : CT} (h : CTok Tryz.prog ct) : EntOk Tryz.prog f_cpu_Exec (in_cpu_Exec ct) := inl_ok tt_ok h 60 fn_cpu_Exec rfl nt_cpu_Exec rfl cal_cpu_Exec (by kernel_rfl)
@[match_pattern] abbrev f_r28_Exec : Nat := 13
theorem fn_r28_Exec : Tryz.prog.funcs[f_r28_Exec]? = some Tryz.f13 := Tryz.func13
abbrev n_r28_Exec : Nat := 99
theorem nt_r28_Exec : Tryz.f13.ntmps = n_r28_Exec := Tryz.ntmps13
abbrev k_r28_Exec : List Nat := [0, 1, 2, 3, 5, 6, 7, 8, 9, 10, 11, 12, 13, 14, 22, 27, 32, 37, 56, 77, 90]
abbrev rs_r28_Exec : List ResultVar := [.cell 6 26, .tmp 7, .tmp 8]
theorem cal_r28_Exec : Sx.Callee Tryz.prog f_r28_Exec := ⟨_, Tryz.func13, by kernel_rfl, by kernel_rfl⟩
noncomputable abbrev in_r28_Exec (ct : CT) : Ent := .st (inlS tt ct n_r28_Exec k_r28_Exec rs_r28_Exec 60 (Tryz.f13.body.getD .skip))
theorem in_r28_Exec_ok {ct : CT} (h : CTok Tryz.prog ct) : EntOk Tryz.prog f_r28_Exec (in_r28_Exec ct) := inl_ok tt_ok h 60 fn_r28_Exec rfl nt_r28_Exec rfl cal_r28_Exec (by kernel_rfl)
@[match_pattern] abbrev f_mem_Mem_Bytes : Nat := 14
theorem fn_mem_Mem_Bytes : Tryz.prog.funcs[f_mem_Mem_Bytes]? = some Tryz.f14 := Tryz.func14
abbrev n_mem_Mem_Bytes : Nat := 19
theorem nt_mem_Mem_Bytes : Tryz.f14.ntmps = n_mem_Mem_Bytes := Tryz.ntmps14
abbrev k_mem_Mem_Bytes : List Nat := [0, 2, 3, 5]
abbrev rs_mem_Mem_Bytes : List ResultVar := [.tmp 2]
theorem cal_mem_Mem_Bytes : Sx.Callee Tryz.prog f_mem_Mem_Bytes := ⟨_, Tryz.func14, by kernel_rfl, by kernel_rfl⟩
noncomputable abbrev in_mem_Mem_Bytes (ct : CT) : Ent := .st (inlS tt ct n_mem_Mem_Bytes k_mem_Mem_Bytes rs_mem_Mem_Bytes 60 (Tryz.f14.body.getD .skip))
theorem in_mem_Mem_Bytes_ok {ct : CT} (h : CTok Tryz.prog ct) : EntOk Tryz.prog f_mem_Mem_Bytes (in_mem_Mem_Bytes ct) := inl_ok tt_ok h 60 fn_mem_Mem_Bytes rfl nt_mem_Mem_Bytes rfl cal_mem_Mem_Bytes (by kernel_rfl)
@[match_pattern] abbrev f_l28_works : Nat := 15
theorem fn_l28_works : Tryz.prog.funcs[f_l28_works]? = some Tryz.f15 := Tryz.func15
abbrev n_l28_works : Nat := 107
theorem nt_l28_works : Tryz.f15.ntmps = n_l28_works := Tryz.ntmps15
abbrev k_l28_works : List Nat := [0, 1, 2, 3, 4, 5, 7, 9, 10, 11, 12]
abbrev rs_l28_works : List ResultVar := [.tmp 0]
theorem cal_l28_works : Sx.Callee Tryz.prog f_l28_works := ⟨_, Tryz.func15, by kernel_rfl, by kernel_rfl⟩
noncomputable abbrev in_l28_works (ct : CT) : Ent := .st (inlS tt ct n_l28_works k_l28_works rs_l28_works 60 (Tryz.f15.body.getD .skip))
theorem in_l28_works_ok {ct : CT} (h : CTok Tryz.prog ct) : EntOk Tryz.prog f_l28_works (in_l28_works ct) := inl_ok tt_ok h 60 fn_l28_works rfl nt_l28_works rfl cal_l28_works (by kernel_rfl)
@[match_pattern] abbrev f_l28_op : Nat := 16
theorem fn_l28_op : Tryz.prog.funcs[f_l28_op]? = some Tryz.f16 := Tryz.func16
abbrev n_l28_op : Nat := 5
theorem nt_l28_op : Tryz.f16.ntmps = n_l28_op := Tryz.ntmps16
abbrev k_l28_op : List Nat := [0, 2]
abbrev rs_l28_op : List ResultVar := [.cell 2 29]
theorem cal_l28_op : Sx.Callee Tryz.prog f_l28_op := ⟨_, Tryz.func16, by kernel_rfl, by kernel_rfl⟩
noncomputable abbrev in_l28_op (ct : CT) : Ent := .st (inlS tt ct n_l28_op k_l28_op rs_l28_op 60 (Tryz.f16.body.getD .skip))
theorem in_l28_op_ok {ct : CT} (h : CTok Tryz.prog ct) : EntOk Tryz.prog f_l28_op (in_l28_op ct) := inl_ok tt_ok h 60 fn_l28_op rfl nt_l28_op rfl cal_l28_op (by kernel_rfl)
@[match_pattern] abbrev f_cpu_Mine : Nat := 17
theorem fn_cpu_Mine : Tryz.prog.funcs[f_cpu_Mine]? = some Tryz.f17 := Tryz.func17
abbrev n_cpu_Mine : Nat := 30
theorem nt_cpu_Mine : Tryz.f17.ntmps = n_cpu_Mine := Tryz.ntmps17
abbrev k_cpu_Mine : List Nat := [0, 1, 2, 5]
abbrev rs_cpu_Mine : List ResultVar := [.tmp 2]
theorem cal_cpu_Mine : Sx.Callee Tryz.prog f_cpu_Mine := ⟨_, Tryz.func17, by kernel_rfl, by kernel_rfl⟩
noncomputable abbrev in_cpu_Mine (ct : CT) : Ent := .st (inlS tt ct n_cpu_Mine k_cpu_Mine rs_cpu_Mine 60 (Tryz.f17.body.getD .skip))
theorem in_cpu_Mine_ok {ct : CT} (h : CTok Tryz.prog ct) : EntOk Tryz.prog f_cpu_Mine (in_cpu_Mine ct) := inl_ok tt_ok h 60 fn_cpu_Mine rfl nt_cpu_Mine rfl cal_cpu_Mine (by kernel_rfl)
@[match_pattern] abbrev f_r28_Mine : Nat := 18
theorem fn_r28_Mine : Tryz.prog.funcs[f_r28_Mine]? = some Tryz.f18 := Tryz.func18
abbrev n_r28_Mine : Nat := 35
theorem nt_r28_Mine : Tryz.f18.ntmps = n_r28_Mine := Tryz.ntmps18
abbrev k_r28_Mine : List Nat := [0, 1, 2, 3, 4, 7, 25, 34]
abbrev rs_r28_Mine : List ResultVar := [.tmp 2]
theorem cal_r28_Mine : Sx.Callee Tryz.prog f_r28_Mine := ⟨_, Tryz.func18, by kernel_rfl, by kernel_rfl⟩
noncomputable abbrev in_r28_Mine (ct : CT) : Ent := .st (inlS tt ct n_r28_Mine k_r28_Mine rs_r28_Mine 60 (Tryz.f18.body.getD .skip))
theorem in_r28_Mine_ok {ct : CT} (h : CTok Tryz.prog ct) : EntOk Tryz.prog f_r28_Mine (in_r28_Mine ct) := inl_ok tt_ok h 60 fn_r28_Mine rfl nt_r28_Mine rfl cal_r28_Mine (by kernel_rfl)
@[match_pattern] abbrev f_l28_fresh : Nat := 19
theorem fn_l28_fresh : Tryz.prog.funcs[f_l28_fresh]? = some Tryz.f19 := Tryz.func19
abbrev n_l28_fresh : Nat := 8
theorem nt_l28_fresh : Tryz.f19.ntmps = n_l28_fresh := Tryz.ntmps19
abbrev k_l28_fresh : List Nat := [0, 1]
abbrev rs_l28_fresh : List ResultVar := [.tmp 0]
theorem cal_l28_fresh : Sx.Callee Tryz.prog f_l28_fresh := ⟨_, Tryz.func19, by kernel_rfl, by kernel_rfl⟩
noncomputable abbrev in_l28_fresh (ct : CT) : Ent := .st (inlS tt ct n_l28_fresh k_l28_fresh rs_l28_fresh 60 (Tryz.f19.body.getD .skip))
theorem in_l28_fresh_ok {ct : CT} (h : CTok Tryz.prog ct) : EntOk Tryz.prog f_l28_fresh (in_l28_fresh ct) := inl_ok tt_ok h 60 fn_l28_fresh rfl nt_l28_fresh rfl cal_l28_fresh (by kernel_rfl)
@[match_pattern] abbrev f_l28_run : Nat := 20
theorem fn_l28_run : Tryz.prog.funcs[f_l28_run]? = some Tryz.f20 := Tryz.func20
abbrev n_l28_run : Nat := 32
theorem nt_l28_run : Tryz.f20.ntmps = n_l28_run := Tryz.ntmps20
abbrev k_l28_run : List Nat := [0, 1, 2, 3, 6, 7, 9, 10, 11, 12, 13, 14, 15, 26]
abbrev rs_l28_run : List ResultVar := [.cell 6 26, .tmp 7]
theorem cal_l28_run : Sx.Callee Tryz.prog f_l28_run := ⟨_, Tryz.func20, by kernel_rfl, by kernel_rfl⟩
noncomputable abbrev in_l28_run (ct : CT) : Ent := .st (inlS tt ct n_l28_run k_l28_run rs_l28_run 60 (Tryz.f20.body.getD .skip))
theorem in_l28_run_ok {ct : CT} (h : CTok Tryz.prog ct) : EntOk Tryz.prog f_l28_run (in_l28_run ct) := inl_ok tt_ok h 60 fn_l28_run rfl nt_l28_run rfl cal_l28_run (by kernel_rfl)
@[match_pattern] abbrev f_l28_fn : Nat := 21
theorem fn_l28_fn : Tryz.prog.funcs[f_l28_fn]? = some Tryz.f21 := Tryz.func21
abbrev n_l28_fn : Nat := 8
theorem nt_l28_fn : Tryz.f21.ntmps = n_l28_fn := Tryz.ntmps21
abbrev k_l28_fn : List Nat := [0, 1, 4]
abbrev rs_l28_fn : List ResultVar := [.cell 4 29]
theorem cal_l28_fn : Sx.Callee Tryz.prog f_l28_fn := ⟨_, Tryz.func21, by kernel_rfl, by kernel_rfl⟩
noncomputable abbrev in_l28_fn (ct : CT) : Ent := .st (inlS tt ct n_l28_fn k_l28_fn rs_l28_fn 60 (Tryz.f21.body.getD .skip))
theorem in_l28_fn_ok {ct : CT} (h : CTok Tryz.prog ct) : EntOk Tryz.prog f_l28_fn (in_l28_fn ct) := inl_ok tt_ok h 60 fn_l28_fn rfl nt_l28_fn rfl cal_l28_fn (by kernel_rfl)
@[match_pattern] abbrev f_l28_CpuDouble_1 : Nat := 22
theorem fn_l28_CpuDouble_1 : Tryz.prog.funcs[f_l28_CpuDouble_1]? = some Tryz.f22 := Tryz.func22
abbrev n_l28_CpuDouble_1 : Nat := 13
theorem nt_l28_CpuDouble_1 : Tryz.f22.ntmps = n_l28_CpuDouble_1 := Tryz.ntmps22
abbrev k_l28_CpuDouble_1 : List Nat := [0, 1, 4]
abbrev rs_l28_CpuDouble_1 : List ResultVar := [.tmp 4]
theorem cal_l28_CpuDouble_1 : Sx.Callee Tryz.prog f_l28_CpuDouble_1 := ⟨_, Tryz.func22, by kernel_rfl, by kernel_rfl⟩
noncomputable abbrev in_l28_CpuDouble_1 (ct : CT) : Ent := .st (inlS tt ct n_l28_CpuDouble_1 k_l28_CpuDouble_1 rs_l28_CpuDouble_1 60 (Tryz.f22.body.getD .skip))
theorem in_l28_CpuDouble_1_ok {ct : CT} (h : CTok Tryz.prog ct) : EntOk Tryz.prog f_l28_CpuDouble_1 (in_l28_CpuDouble_1 ct) := inl_ok tt_ok h 60 fn_l28_CpuDouble_1 rfl nt_l28_CpuDouble_1 rfl cal_l28_CpuDouble_1 (by kernel_rfl)
@[match_pattern] abbrev f_l28_ready : Nat := 23
theorem fn_l28_ready : Tryz.prog.funcs[f_l28_ready]? = some Tryz.f23 := Tryz.func23
abbrev n_l28_ready : Nat := 2
theorem nt_l28_ready : Tryz.f23.ntmps = n_l28_ready := Tryz.ntmps23
abbrev k_l28_ready : List Nat := [0]
abbrev rs_l28_ready : List ResultVar := [.cell 0 26]
theorem cal_l28_ready : Sx.Callee Tryz.prog f_l28_ready := ⟨_, Tryz.func23, by kernel_rfl, by kernel_rfl⟩
noncomputable abbrev in_l28_ready (ct : CT) : Ent := .st (inlS tt ct n_l28_ready k_l28_ready rs_l28_ready 60 (Tryz.f23.body.getD .skip))
theorem in_l28_ready_ok {ct : CT} (h : CTok Tryz.prog ct) : EntOk Tryz.prog f_l28_ready (in_l28_ready ct) := inl_ok tt_ok h 60 fn_l28_ready rfl nt_l28_ready rfl cal_l28_ready (by kernel_rfl)
@[match_pattern] abbrev f_mem_Mem_Word : Nat := 24
theorem fn_mem_Mem_Word : Tryz.prog.funcs[f_mem_Mem_Word]? = some Tryz.f24 := Tryz.func24
abbrev n_mem_Mem_Word : Nat := 40
theorem nt_mem_Mem_Word : Tryz.f24.ntmps = n_mem_Mem_Word := Tryz.ntmps24
abbrev k_mem_Mem_Word : List Nat := [0, 1, 4, 5, 6, 7, 15]
abbrev rs_mem_Mem_Word : List ResultVar := [.tmp 4, .tmp 5]
theorem cal_mem_Mem_Word : Sx.Callee Tryz.prog f_mem_Mem_Word := ⟨_, Tryz.func24, by kernel_rfl, by kernel_rfl⟩
noncomputable abbrev in_mem_Mem_Word (ct : CT) : Ent := .st (inlS tt ct n_mem_Mem_Word k_mem_Mem_Word rs_mem_Mem_Word 60 (Tryz.f24.body.getD .skip))
theorem in_mem_Mem_Word_ok {ct : CT} (h : CTok Tryz.prog ct) : EntOk Tryz.prog f_mem_Mem_Word (in_mem_Mem_Word ct) := inl_ok tt_ok h 60 fn_mem_Mem_Word rfl nt_mem_Mem_Word rfl cal_mem_Mem_Word (by kernel_rfl)
@[match_pattern] abbrev f_mem_Mem_SetWord : Nat := 25
theorem fn_mem_Mem_SetWord : Tryz.prog.funcs[f_mem_Mem_SetWord]? = some Tryz.f25 := Tryz.func25
abbrev n_mem_Mem_SetWord : Nat := 32
theorem nt_mem_Mem_SetWord : Tryz.f25.ntmps = n_mem_Mem_SetWord := Tryz.ntmps25
abbrev k_mem_Mem_SetWord : List Nat := [0, 1, 2, 6, 7, 8, 9, 17, 18, 19]
abbrev rs_mem_Mem_SetWord : List ResultVar := [.tmp 6]
theorem cal_mem_Mem_SetWord : Sx.Callee Tryz.prog f_mem_Mem_SetWord := ⟨_, Tryz.func25, by kernel_rfl, by kernel_rfl⟩
noncomputable abbrev in_mem_Mem_SetWord (ct : CT) : Ent := .st (inlS tt ct n_mem_Mem_SetWord k_mem_Mem_SetWord rs_mem_Mem_SetWord 60 (Tryz.f25.body.getD .skip))
theorem in_mem_Mem_SetWord_ok {ct : CT} (h : CTok Tryz.prog ct) : EntOk Tryz.prog f_mem_Mem_SetWord (in_mem_Mem_SetWord ct) := inl_ok tt_ok h 60 fn_mem_Mem_SetWord rfl nt_mem_Mem_SetWord rfl cal_mem_Mem_SetWord (by kernel_rfl)
@[match_pattern] abbrev f_mem_may : Nat := 26
theorem fn_mem_may : Tryz.prog.funcs[f_mem_may]? = some Tryz.f26 := Tryz.func26
abbrev n_mem_may : Nat := 14
theorem nt_mem_may : Tryz.f26.ntmps = n_mem_may := Tryz.ntmps26
abbrev k_mem_may : List Nat := [0, 2]
abbrev rs_mem_may : List ResultVar := [.tmp 2]
theorem cal_mem_may : Sx.Callee Tryz.prog f_mem_may := ⟨_, Tryz.func26, by kernel_rfl, by kernel_rfl⟩
noncomputable abbrev in_mem_may (ct : CT) : Ent := .st (inlS tt ct n_mem_may k_mem_may rs_mem_may 60 (Tryz.f26.body.getD .skip))
theorem in_mem_may_ok {ct : CT} (h : CTok Tryz.prog ct) : EntOk Tryz.prog f_mem_may (in_mem_may ct) := inl_ok tt_ok h 60 fn_mem_may rfl nt_mem_may rfl cal_mem_may (by kernel_rfl)
@[match_pattern] abbrev f_mem_Mem_Size : Nat := 27
theorem fn_mem_Mem_Size : Tryz.prog.funcs[f_mem_Mem_Size]? = some Tryz.f27 := Tryz.func27
abbrev n_mem_Mem_Size : Nat := 10
theorem nt_mem_Mem_Size : Tryz.f27.ntmps = n_mem_Mem_Size := Tryz.ntmps27
abbrev k_mem_Mem_Size : List Nat := [0, 2, 4]
abbrev rs_mem_Mem_Size : List ResultVar := [.tmp 2]
theorem cal_mem_Mem_Size : Sx.Callee Tryz.prog f_mem_Mem_Size := ⟨_, Tryz.func27, by kernel_rfl, by kernel_rfl⟩
noncomputable abbrev in_mem_Mem_Size (ct : CT) : Ent := .st (inlS tt ct n_mem_Mem_Size k_mem_Mem_Size rs_mem_Mem_Size 60 (Tryz.f27.body.getD .skip))
theorem in_mem_Mem_Size_ok {ct : CT} (h : CTok Tryz.prog ct) : EntOk Tryz.prog f_mem_Mem_Size (in_mem_Mem_Size ct) := inl_ok tt_ok h 60 fn_mem_Mem_Size rfl nt_mem_Mem_Size rfl cal_mem_Mem_Size (by kernel_rfl)
@[match_pattern] abbrev f_cpu_machine_function : Nat := 28
theorem fn_cpu_machine_function : Tryz.prog.funcs[f_cpu_machine_function]? = some Tryz.f28 := Tryz.func28
abbrev n_cpu_machine_function : Nat := 193
theorem nt_cpu_machine_function : Tryz.f28.ntmps = n_cpu_machine_function := Tryz.ntmps28
abbrev k_cpu_machine_function : List Nat := [0, 1, 2, 6, 7, 8, 9, 21, 33, 49, 54, 67, 81, 101, 106, 113, 126, 139, 153, 172]
abbrev rs_cpu_machine_function : List ResultVar := []
theorem cal_cpu_machine_function : Sx.Callee Tryz.prog f_cpu_machine_function := ⟨_, Tryz.func28, by kernel_rfl, by kernel_rfl⟩
noncomputable abbrev in_cpu_machine_function (ct : CT) : Ent := .st (inlS tt ct n_cpu_machine_function k_cpu_machine_function rs_cpu_machine_function 60 (Tryz.f28.body.getD .skip))
theorem in_cpu_machine_function_ok {ct : CT} (h : CTok Tryz.prog ct) : EntOk Tryz.prog f_cpu_machine_function (in_cpu_machine_function ct) := inl_ok tt_ok h 60 fn_cpu_machine_function rfl nt_cpu_machine_function rfl cal_cpu_machine_function (by kernel_rfl)
@[match_pattern] abbrev f_cpu_binary : Nat := 29
theorem fn_cpu_binary : Tryz.prog.funcs[f_cpu_binary]? = some Tryz.f29 := Tryz.func29
abbrev n_cpu_binary : Nat := 56
theorem nt_cpu_binary : Tryz.f29.ntmps = n_cpu_binary := Tryz.ntmps29
abbrev k_cpu_binary : List Nat := [0, 2, 3, 4, 6, 8, 10, 12, 14, 17, 19, 21, 23, 26, 29, 32, 35, 38, 41, 44, 47, 50, 53]
abbrev rs_cpu_binary : List ResultVar := [.tmp 2]
theorem cal_cpu_binary : Sx.Callee Tryz.prog f_cpu_binary := ⟨_, Tryz.func29, by kernel_rfl, by kernel_rfl⟩
noncomputable abbrev in_cpu_binary (ct : CT) : Ent := .st (inlS tt ct n_cpu_binary k_cpu_binary rs_cpu_binary 60 (Tryz.f29.body.getD .skip))
theorem in_cpu_binary_ok {ct : CT} (h : CTok Tryz.prog ct) : EntOk Tryz.prog f_cpu_binary (in_cpu_binary ct) := inl_ok tt_ok h 60 fn_cpu_binary rfl nt_cpu_binary rfl cal_cpu_binary (by kernel_rfl)
@[match_pattern] abbrev f_cpu_machine_check : Nat := 30
theorem fn_cpu_machine_check : Tryz.prog.funcs[f_cpu_machine_check]? = some Tryz.f30 := Tryz.func30
abbrev n_cpu_machine_check : Nat := 16
theorem nt_cpu_machine_check : Tryz.f30.ntmps = n_cpu_machine_check := Tryz.ntmps30
abbrev k_cpu_machine_check : List Nat := [0, 1]
abbrev rs_cpu_machine_check : List ResultVar := []
theorem cal_cpu_machine_check : Sx.Callee Tryz.prog f_cpu_machine_check := ⟨_, Tryz.func30, by kernel_rfl, by kernel_rfl⟩
noncomputable abbrev in_cpu_machine_check (ct : CT) : Ent := .st (inlS tt ct n_cpu_machine_check k_cpu_machine_check rs_cpu_machine_check 60 (Tryz.f30.body.getD .skip))
theorem in_cpu_machine_check_ok {ct : CT} (h : CTok Tryz.prog ct) : EntOk Tryz.prog f_cpu_machine_check (in_cpu_machine_check ct) := inl_ok tt_ok h 60 fn_cpu_machine_check rfl nt_cpu_machine_check rfl cal_cpu_machine_check (by kernel_rfl)
@[match_pattern] abbrev f_cpu_others : Nat := 31
theorem fn_cpu_others : Tryz.prog.funcs[f_cpu_others]? = some Tryz.f31 := Tryz.func31
abbrev n_cpu_others : Nat := 3
theorem nt_cpu_others : Tryz.f31.ntmps = n_cpu_others := Tryz.ntmps31
abbrev k_cpu_others : List Nat := [0]
abbrev rs_cpu_others : List ResultVar := [.tmp 0]
theorem cal_cpu_others : Sx.Callee Tryz.prog f_cpu_others := ⟨_, Tryz.func31, by kernel_rfl, by kernel_rfl⟩
noncomputable abbrev in_cpu_others (ct : CT) : Ent := .st (inlS tt ct n_cpu_others k_cpu_others rs_cpu_others 60 (Tryz.f31.body.getD .skip))
theorem in_cpu_others_ok {ct : CT} (h : CTok Tryz.prog ct) : EntOk Tryz.prog f_cpu_others (in_cpu_others ct) := inl_ok tt_ok h 60 fn_cpu_others rfl nt_cpu_others rfl cal_cpu_others (by kernel_rfl)
@[match_pattern] abbrev f_r28_function : Nat := 32
theorem fn_r28_function : Tryz.prog.funcs[f_r28_function]? = some Tryz.f32 := Tryz.func32
abbrev n_r28_function : Nat := 177
theorem nt_r28_function : Tryz.f32.ntmps = n_r28_function := Tryz.ntmps32
abbrev k_r28_function : List Nat := [0, 1, 2, 3, 5, 6, 7, 8, 9, 10, 11, 12, 15, 16, 27, 36, 49, 55, 63, 78, 95, 105, 109, 121, 129, 138, 154, 172]
abbrev rs_r28_function : List ResultVar := [.cell 6 26, .tmp 7, .tmp 8]
theorem cal_r28_function : Sx.Callee Tryz.prog f_r28_function := ⟨_, Tryz.func32, by kernel_rfl, by kernel_rfl⟩
noncomputable abbrev in_r28_function (ct : CT) : Ent := .st (inlS tt ct n_r28_function k_r28_function rs_r28_function 60 (Tryz.f32.body.getD .skip))
theorem in_r28_function_ok {ct : CT} (h : CTok Tryz.prog ct) : EntOk Tryz.prog f_r28_function (in_r28_function ct) := inl_ok tt_ok h 60 fn_r28_function rfl nt_r28_function rfl cal_r28_function (by kernel_rfl)
@[match_pattern] abbrev f_r28_two : Nat := 33
theorem fn_r28_two : Tryz.prog.funcs[f_r28_two]? = some Tryz.f33 := Tryz.func33
abbrev n_r28_two : Nat := 148
theorem nt_r28_two : Tryz.f33.ntmps = n_r28_two := Tryz.ntmps33
abbrev k_r28_two : List Nat := [0, 1, 2, 6, 7, 8, 9, 10, 11, 12, 20, 28, 36, 44, 52, 61, 69, 77, 82, 87, 92, 97, 102, 108, 117, 122, 130, 138]
abbrev rs_r28_two : List ResultVar := [.tmp 6, .tmp 7, .tmp 8]
theorem cal_r28_two : Sx.Callee Tryz.prog f_r28_two := ⟨_, Tryz.func33, by kernel_rfl, by kernel_rfl⟩
noncomputable abbrev in_r28_two (ct : CT) : Ent := .st (inlS tt ct n_r28_two k_r28_two rs_r28_two 60 (Tryz.f33.body.getD .skip))
theorem in_r28_two_ok {ct : CT} (h : CTok Tryz.prog ct) : EntOk Tryz.prog f_r28_two (in_r28_two ct) := inl_ok tt_ok h 60 fn_r28_two rfl nt_r28_two rfl cal_r28_two (by kernel_rfl)
@[match_pattern] abbrev f_r28_long : Nat := 34
theorem fn_r28_long : Tryz.prog.funcs[f_r28_long]? = some Tryz.f34 := Tryz.func34
abbrev n_r28_long : Nat := 170
theorem nt_r28_long : Tryz.f34.ntmps = n_r28_long := Tryz.ntmps34
abbrev k_r28_long : List Nat := [0, 1, 2, 4, 5, 6, 7, 9, 11, 24, 37, 51, 65, 79, 94, 108, 122, 136, 149]
abbrev rs_r28_long : List ResultVar := [.cell 4 26, .tmp 5]
theorem cal_r28_long : Sx.Callee Tryz.prog f_r28_long := ⟨_, Tryz.func34, by kernel_rfl, by kernel_rfl⟩
noncomputable abbrev in_r28_long (ct : CT) : Ent := .st (inlS tt ct n_r28_long k_r28_long rs_r28_long 60 (Tryz.f34.body.getD .skip))
theorem in_r28_long_ok {ct : CT} (h : CTok Tryz.prog ct) : EntOk Tryz.prog f_r28_long (in_r28_long ct) := inl_ok tt_ok h 60 fn_r28_long rfl nt_r28_long rfl cal_r28_long (by kernel_rfl)
@[match_pattern] abbrev f_r28_memory : Nat := 35
theorem fn_r28_memory : Tryz.prog.funcs[f_r28_memory]? = some Tryz.f35 := Tryz.func35
abbrev n_r28_memory : Nat := 98
theorem nt_r28_memory : Tryz.f35.ntmps = n_r28_memory := Tryz.ntmps35
abbrev k_r28_memory : List Nat := [0, 1, 2, 3, 6, 7, 8, 9, 10, 11, 12, 13, 14, 15, 16, 17, 18, 20, 23, 36, 51, 64, 80, 93]
abbrev rs_r28_memory : List ResultVar := [.cell 6 26, .tmp 7, .tmp 8, .tmp 9]
theorem cal_r28_memory : Sx.Callee Tryz.prog f_r28_memory := ⟨_, Tryz.func35, by kernel_rfl, by kernel_rfl⟩
noncomputable abbrev in_r28_memory (ct : CT) : Ent := .st (inlS tt ct n_r28_memory k_r28_memory rs_r28_memory 60 (Tryz.f35.body.getD .skip))
theorem in_r28_memory_ok {ct : CT} (h : CTok Tryz.prog ct) : EntOk Tryz.prog f_r28_memory (in_r28_memory ct) := inl_ok tt_ok h 60 fn_r28_memory rfl nt_r28_memory rfl cal_r28_memory (by kernel_rfl)
@[match_pattern] abbrev f_r28_alone : Nat := 36
theorem fn_r28_alone : Tryz.prog.funcs[f_r28_alone]? = some Tryz.f36 := Tryz.func36
abbrev n_r28_alone : Nat := 110
theorem nt_r28_alone : Tryz.f36.ntmps = n_r28_alone := Tryz.ntmps36
abbrev k_r28_alone : List Nat := [0, 1, 2, 4, 5, 7, 9, 10, 18, 24, 32, 45, 49, 60, 68, 84, 87, 96, 99, 102]
abbrev rs_r28_alone : List ResultVar := [.cell 4 26]
theorem cal_r28_alone : Sx.Callee Tryz.prog f_r28_alone := ⟨_, Tryz.func36, by kernel_rfl, by kernel_rfl⟩
noncomputable abbrev in_r28_alone (ct : CT) : Ent := .st (inlS tt ct n_r28_alone k_r28_alone rs_r28_alone 60 (Tryz.f36.body.getD .skip))
theorem in_r28_alone_ok {ct : CT} (h : CTok Tryz.prog ct) : EntOk Tryz.prog f_r28_alone (in_r28_alone ct) := inl_ok tt_ok h 60 fn_r28_alone rfl nt_r28_alone rfl cal_r28_alone (by kernel_rfl)
@[match_pattern] abbrev f_mem_Mem_none : Nat := 37
theorem fn_mem_Mem_none : Tryz.prog.funcs[f_mem_Mem_none]? = some Tryz.f37 := Tryz.func37
abbrev n_mem_Mem_none : Nat := 13
theorem nt_mem_Mem_none : Tryz.f37.ntmps = n_mem_Mem_none := Tryz.ntmps37
abbrev k_mem_Mem_none : List Nat := [0, 2]
abbrev rs_mem_Mem_none : List ResultVar := [.tmp 2]
theorem cal_mem_Mem_none : Sx.Callee Tryz.prog f_mem_Mem_none := ⟨_, Tryz.func37, by kernel_rfl, by kernel_rfl⟩
noncomputable abbrev in_mem_Mem_none (ct : CT) : Ent := .st (inlS tt ct n_mem_Mem_none k_mem_Mem_none rs_mem_Mem_none 60 (Tryz.f37.body.getD .skip))
theorem in_mem_Mem_none_ok {ct : CT} (h : CTok Tryz.prog ct) : EntOk Tryz.prog f_mem_Mem_none (in_mem_Mem_none ct) := inl_ok tt_ok h 60 fn_mem_Mem_none rfl nt_mem_Mem_none rfl cal_mem_Mem_none (by kernel_rfl)
@[match_pattern] abbrev f_r28_operations : Nat := 38
theorem fn_r28_operations : Tryz.prog.funcs[f_r28_operations]? = some Tryz.f38 := Tryz.func38
abbrev n_r28_operations : Nat := 2
theorem nt_r28_operations : Tryz.f38.ntmps = n_r28_operations := Tryz.ntmps38
abbrev k_r28_operations : List Nat := [0]
abbrev rs_r28_operations : List ResultVar := [.tmp 0]
theorem cal_r28_operations : Sx.Callee Tryz.prog f_r28_operations := ⟨_, Tryz.func38, by kernel_rfl, by kernel_rfl⟩
noncomputable abbrev in_r28_operations (ct : CT) : Ent := .st (inlS tt ct n_r28_operations k_r28_operations rs_r28_operations 60 (Tryz.f38.body.getD .skip))
theorem in_r28_operations_ok {ct : CT} (h : CTok Tryz.prog ct) : EntOk Tryz.prog f_r28_operations (in_r28_operations ct) := inl_ok tt_ok h 60 fn_r28_operations rfl nt_r28_operations rfl cal_r28_operations (by kernel_rfl)
@[match_pattern] abbrev f_mem_New : Nat := 39
theorem fn_mem_New : Tryz.prog.funcs[f_mem_New]? = some Tryz.f39 := Tryz.func39
abbrev n_mem_New : Nat := 11
theorem nt_mem_New : Tryz.f39.ntmps = n_mem_New := Tryz.ntmps39
abbrev k_mem_New : List Nat := [0, 2, 3, 6]
abbrev rs_mem_New : List ResultVar := [.tmp 2, .tmp 3]
theorem cal_mem_New : Sx.Callee Tryz.prog f_mem_New := ⟨_, Tryz.func39, by kernel_rfl, by kernel_rfl⟩
noncomputable abbrev in_mem_New (ct : CT) : Ent := .st (inlS tt ct n_mem_New k_mem_New rs_mem_New 60 (Tryz.f39.body.getD .skip))
theorem in_mem_New_ok {ct : CT} (h : CTok Tryz.prog ct) : EntOk Tryz.prog f_mem_New (in_mem_New ct) := inl_ok tt_ok h 60 fn_mem_New rfl nt_mem_New rfl cal_mem_New (by kernel_rfl)
@[match_pattern] abbrev f_mem_Mem_word : Nat := 40
theorem fn_mem_Mem_word : Tryz.prog.funcs[f_mem_Mem_word]? = some Tryz.f40 := Tryz.func40
abbrev n_mem_Mem_word : Nat := 12
theorem nt_mem_Mem_word : Tryz.f40.ntmps = n_mem_Mem_word := Tryz.ntmps40
abbrev k_mem_Mem_word : List Nat := [0, 1, 4, 5]
abbrev rs_mem_Mem_word : List ResultVar := [.tmp 4, .tmp 5]
theorem cal_mem_Mem_word : Sx.Callee Tryz.prog f_mem_Mem_word := ⟨_, Tryz.func40, by kernel_rfl, by kernel_rfl⟩
noncomputable abbrev in_mem_Mem_word (ct : CT) : Ent := .st (inlS tt ct n_mem_Mem_word k_mem_Mem_word rs_mem_Mem_word 60 (Tryz.f40.body.getD .skip))
theorem in_mem_Mem_word_ok {ct : CT} (h : CTok Tryz.prog ct) : EntOk Tryz.prog f_mem_Mem_word (in_mem_Mem_word ct) := inl_ok tt_ok h 60 fn_mem_Mem_word rfl nt_mem_Mem_word rfl cal_mem_Mem_word (by kernel_rfl)
@[match_pattern] abbrev f_cpu_machine_push : Nat := 41
theorem fn_cpu_machine_push : Tryz.prog.funcs[f_cpu_machine_push]? = some Tryz.f41 := Tryz.func41
abbrev n_cpu_machine_push : Nat := 27
theorem nt_cpu_machine_push : Tryz.f41.ntmps = n_cpu_machine_push := Tryz.ntmps41
abbrev k_cpu_machine_push : List Nat := [0, 1]
abbrev rs_cpu_machine_push : List ResultVar := []
theorem cal_cpu_machine_push : Sx.Callee Tryz.prog f_cpu_machine_push := ⟨_, Tryz.func41, by kernel_rfl, by kernel_rfl⟩
noncomputable abbrev in_cpu_machine_push (ct : CT) : Ent := .st (inlS tt ct n_cpu_machine_push k_cpu_machine_push rs_cpu_machine_push 60 (Tryz.f41.body.getD .skip))
theorem in_cpu_machine_push_ok {ct : CT} (h : CTok Tryz.prog ct) : EntOk Tryz.prog f_cpu_machine_push (in_cpu_machine_push ct) := inl_ok tt_ok h 60 fn_cpu_machine_push rfl nt_cpu_machine_push rfl cal_cpu_machine_push (by kernel_rfl)
@[match_pattern] abbrev f_cpu_machine_load : Nat := 42
theorem fn_cpu_machine_load : Tryz.prog.funcs[f_cpu_machine_load]? = some Tryz.f42 := Tryz.func42
abbrev n_cpu_machine_load : Nat := 20
theorem nt_cpu_machine_load : Tryz.f42.ntmps = n_cpu_machine_load := Tryz.ntmps42
abbrev k_cpu_machine_load : List Nat := [0, 1, 4, 5, 6]
abbrev rs_cpu_machine_load : List ResultVar := [.tmp 4]
theorem cal_cpu_machine_load : Sx.Callee Tryz.prog f_cpu_machine_load := ⟨_, Tryz.func42, by kernel_rfl, by kernel_rfl⟩
noncomputable abbrev in_cpu_machine_load (ct : CT) : Ent := .st (inlS tt ct n_cpu_machine_load k_cpu_machine_load rs_cpu_machine_load 60 (Tryz.f42.body.getD .skip))
theorem in_cpu_machine_load_ok {ct : CT} (h : CTok Tryz.prog ct) : EntOk Tryz.prog f_cpu_machine_load (in_cpu_machine_load ct) := inl_ok tt_ok h 60 fn_cpu_machine_load rfl nt_cpu_machine_load rfl cal_cpu_machine_load (by kernel_rfl)
@[match_pattern] abbrev f_word_Add : Nat := 43
theorem fn_word_Add : Tryz.prog.funcs[f_word_Add]? = some Tryz.f43 := Tryz.func43
abbrev n_word_Add : Nat := 14
theorem nt_word_Add : Tryz.f43.ntmps = n_word_Add := Tryz.ntmps43
abbrev k_word_Add : List Nat := [0, 1, 4, 5]
abbrev rs_word_Add : List ResultVar := [.tmp 4, .tmp 5]
theorem cal_word_Add : Sx.Callee Tryz.prog f_word_Add := ⟨_, Tryz.func43, by kernel_rfl, by kernel_rfl⟩
noncomputable abbrev in_word_Add (ct : CT) : Ent := .st (inlS tt ct n_word_Add k_word_Add rs_word_Add 60 (Tryz.f43.body.getD .skip))
theorem in_word_Add_ok {ct : CT} (h : CTok Tryz.prog ct) : EntOk Tryz.prog f_word_Add (in_word_Add ct) := inl_ok tt_ok h 60 fn_word_Add rfl nt_word_Add rfl cal_word_Add (by kernel_rfl)
@[match_pattern] abbrev f_cpu_machine_call : Nat := 44
theorem fn_cpu_machine_call : Tryz.prog.funcs[f_cpu_machine_call]? = some Tryz.f44 := Tryz.func44
abbrev n_cpu_machine_call : Nat := 90
theorem nt_cpu_machine_call : Tryz.f44.ntmps = n_cpu_machine_call := Tryz.ntmps44
abbrev k_cpu_machine_call : List Nat := [0, 1, 4, 5, 6, 7, 13, 14, 28, 49, 50, 51]
abbrev rs_cpu_machine_call : List ResultVar := []
theorem cal_cpu_machine_call : Sx.Callee Tryz.prog f_cpu_machine_call := ⟨_, Tryz.func44, by kernel_rfl, by kernel_rfl⟩
noncomputable abbrev in_cpu_machine_call (ct : CT) : Ent := .st (inlS tt ct n_cpu_machine_call k_cpu_machine_call rs_cpu_machine_call 60 (Tryz.f44.body.getD .skip))
theorem in_cpu_machine_call_ok {ct : CT} (h : CTok Tryz.prog ct) : EntOk Tryz.prog f_cpu_machine_call (in_cpu_machine_call ct) := inl_ok tt_ok h 60 fn_cpu_machine_call rfl nt_cpu_machine_call rfl cal_cpu_machine_call (by kernel_rfl)
@[match_pattern] abbrev f_cpu_machine_pop : Nat := 45
theorem fn_cpu_machine_pop : Tryz.prog.funcs[f_cpu_machine_pop]? = some Tryz.f45 := Tryz.func45
abbrev n_cpu_machine_pop : Nat := 20
theorem nt_cpu_machine_pop : Tryz.f45.ntmps = n_cpu_machine_pop := Tryz.ntmps45
abbrev k_cpu_machine_pop : List Nat := [0]
abbrev rs_cpu_machine_pop : List ResultVar := []
theorem cal_cpu_machine_pop : Sx.Callee Tryz.prog f_cpu_machine_pop := ⟨_, Tryz.func45, by kernel_rfl, by kernel_rfl⟩
noncomputable abbrev in_cpu_machine_pop (ct : CT) : Ent := .st (inlS tt ct n_cpu_machine_pop k_cpu_machine_pop rs_cpu_machine_pop 60 (Tryz.f45.body.getD .skip))
theorem in_cpu_machine_pop_ok {ct : CT} (h : CTok Tryz.prog ct) : EntOk Tryz.prog f_cpu_machine_pop (in_cpu_machine_pop ct) := inl_ok tt_ok h 60 fn_cpu_machine_pop rfl nt_cpu_machine_pop rfl cal_cpu_machine_pop (by kernel_rfl)
@[match_pattern] abbrev f_cpu_truth : Nat := 46
theorem fn_cpu_truth : Tryz.prog.funcs[f_cpu_truth]? = some Tryz.f46 := Tryz.func46
abbrev n_cpu_truth : Nat := 4
theorem nt_cpu_truth : Tryz.f46.ntmps = n_cpu_truth := Tryz.ntmps46
abbrev k_cpu_truth : List Nat := [0, 2, 3]
abbrev rs_cpu_truth : List ResultVar := [.tmp 2]
theorem cal_cpu_truth : Sx.Callee Tryz.prog f_cpu_truth := ⟨_, Tryz.func46, by kernel_rfl, by kernel_rfl⟩
noncomputable abbrev in_cpu_truth (ct : CT) : Ent := .st (inlS tt ct n_cpu_truth k_cpu_truth rs_cpu_truth 60 (Tryz.f46.body.getD .skip))
theorem in_cpu_truth_ok {ct : CT} (h : CTok Tryz.prog ct) : EntOk Tryz.prog f_cpu_truth (in_cpu_truth ct) := inl_ok tt_ok h 60 fn_cpu_truth rfl nt_cpu_truth rfl cal_cpu_truth (by kernel_rfl)
@[match_pattern] abbrev f_cpu_machine_store : Nat := 47
theorem fn_cpu_machine_store : Tryz.prog.funcs[f_cpu_machine_store]? = some Tryz.f47 := Tryz.func47
abbrev n_cpu_machine_store : Nat := 15
theorem nt_cpu_machine_store : Tryz.f47.ntmps = n_cpu_machine_store := Tryz.ntmps47
abbrev k_cpu_machine_store : List Nat := [0, 1, 2]
abbrev rs_cpu_machine_store : List ResultVar := []
theorem cal_cpu_machine_store : Sx.Callee Tryz.prog f_cpu_machine_store := ⟨_, Tryz.func47, by kernel_rfl, by kernel_rfl⟩
noncomputable abbrev in_cpu_machine_store (ct : CT) : Ent := .st (inlS tt ct n_cpu_machine_store k_cpu_machine_store rs_cpu_machine_store 60 (Tryz.f47.body.getD .skip))
theorem in_cpu_machine_store_ok {ct : CT} (h : CTok Tryz.prog ct) : EntOk Tryz.prog f_cpu_machine_store (in_cpu_machine_store ct) := inl_ok tt_ok h 60 fn_cpu_machine_store rfl nt_cpu_machine_store rfl cal_cpu_machine_store (by kernel_rfl)
@[match_pattern] abbrev f_word_Sub : Nat := 48
theorem fn_word_Sub : Tryz.prog.funcs[f_word_Sub]? = some Tryz.f48 := Tryz.func48
abbrev n_word_Sub : Nat := 14
theorem nt_word_Sub : Tryz.f48.ntmps = n_word_Sub := Tryz.ntmps48
abbrev k_word_Sub : List Nat := [0, 1, 4, 5]
abbrev rs_word_Sub : List ResultVar := [.tmp 4, .tmp 5]
theorem cal_word_Sub : Sx.Callee Tryz.prog f_word_Sub := ⟨_, Tryz.func48, by kernel_rfl, by kernel_rfl⟩
noncomputable abbrev in_word_Sub (ct : CT) : Ent := .st (inlS tt ct n_word_Sub k_word_Sub rs_word_Sub 60 (Tryz.f48.body.getD .skip))
theorem in_word_Sub_ok {ct : CT} (h : CTok Tryz.prog ct) : EntOk Tryz.prog f_word_Sub (in_word_Sub ct) := inl_ok tt_ok h 60 fn_word_Sub rfl nt_word_Sub rfl cal_word_Sub (by kernel_rfl)
@[match_pattern] abbrev f_word_Mul : Nat := 49
theorem fn_word_Mul : Tryz.prog.funcs[f_word_Mul]? = some Tryz.f49 := Tryz.func49
abbrev n_word_Mul : Nat := 14
theorem nt_word_Mul : Tryz.f49.ntmps = n_word_Mul := Tryz.ntmps49
abbrev k_word_Mul : List Nat := [0, 1, 4, 5]
abbrev rs_word_Mul : List ResultVar := [.tmp 4, .tmp 5]
theorem cal_word_Mul : Sx.Callee Tryz.prog f_word_Mul := ⟨_, Tryz.func49, by kernel_rfl, by kernel_rfl⟩
noncomputable abbrev in_word_Mul (ct : CT) : Ent := .st (inlS tt ct n_word_Mul k_word_Mul rs_word_Mul 60 (Tryz.f49.body.getD .skip))
theorem in_word_Mul_ok {ct : CT} (h : CTok Tryz.prog ct) : EntOk Tryz.prog f_word_Mul (in_word_Mul ct) := inl_ok tt_ok h 60 fn_word_Mul rfl nt_word_Mul rfl cal_word_Mul (by kernel_rfl)
@[match_pattern] abbrev f_word_Div : Nat := 50
theorem fn_word_Div : Tryz.prog.funcs[f_word_Div]? = some Tryz.f50 := Tryz.func50
abbrev n_word_Div : Nat := 19
theorem nt_word_Div : Tryz.f50.ntmps = n_word_Div := Tryz.ntmps50
abbrev k_word_Div : List Nat := [0, 1, 4, 5, 15]
abbrev rs_word_Div : List ResultVar := [.tmp 4, .tmp 5]
theorem cal_word_Div : Sx.Callee Tryz.prog f_word_Div := ⟨_, Tryz.func50, by kernel_rfl, by kernel_rfl⟩
noncomputable abbrev in_word_Div (ct : CT) : Ent := .st (inlS tt ct n_word_Div k_word_Div rs_word_Div 60 (Tryz.f50.body.getD .skip))
theorem in_word_Div_ok {ct : CT} (h : CTok Tryz.prog ct) : EntOk Tryz.prog f_word_Div (in_word_Div ct) := inl_ok tt_ok h 60 fn_word_Div rfl nt_word_Div rfl cal_word_Div (by kernel_rfl)
@[match_pattern] abbrev f_word_Rem : Nat := 51
theorem fn_word_Rem : Tryz.prog.funcs[f_word_Rem]? = some Tryz.f51 := Tryz.func51
abbrev n_word_Rem : Nat := 14
theorem nt_word_Rem : Tryz.f51.ntmps = n_word_Rem := Tryz.ntmps51
abbrev k_word_Rem : List Nat := [0, 1, 4, 5, 6, 7, 9]
abbrev rs_word_Rem : List ResultVar := [.tmp 4, .tmp 5]
theorem cal_word_Rem : Sx.Callee Tryz.prog f_word_Rem := ⟨_, Tryz.func51, by kernel_rfl, by kernel_rfl⟩
noncomputable abbrev in_word_Rem (ct : CT) : Ent := .st (inlS tt ct n_word_Rem k_word_Rem rs_word_Rem 60 (Tryz.f51.body.getD .skip))
theorem in_word_Rem_ok {ct : CT} (h : CTok Tryz.prog ct) : EntOk Tryz.prog f_word_Rem (in_word_Rem ct) := inl_ok tt_ok h 60 fn_word_Rem rfl nt_word_Rem rfl cal_word_Rem (by kernel_rfl)
@[match_pattern] abbrev f_cpu_plain : Nat := 52
theorem fn_cpu_plain : Tryz.prog.funcs[f_cpu_plain]? = some Tryz.f52 := Tryz.func52
abbrev n_cpu_plain : Nat := 4
theorem nt_cpu_plain : Tryz.f52.ntmps = n_cpu_plain := Tryz.ntmps52
abbrev k_cpu_plain : List Nat := [0, 1, 2]
abbrev rs_cpu_plain : List ResultVar := [.tmp 2]
theorem cal_cpu_plain : Sx.Callee Tryz.prog f_cpu_plain := ⟨_, Tryz.func52, by kernel_rfl, by kernel_rfl⟩
noncomputable abbrev in_cpu_plain (ct : CT) : Ent := .st (inlS tt ct n_cpu_plain k_cpu_plain rs_cpu_plain 60 (Tryz.f52.body.getD .skip))
theorem in_cpu_plain_ok {ct : CT} (h : CTok Tryz.prog ct) : EntOk Tryz.prog f_cpu_plain (in_cpu_plain ct) := inl_ok tt_ok h 60 fn_cpu_plain rfl nt_cpu_plain rfl cal_cpu_plain (by kernel_rfl)
@[match_pattern] abbrev f_word_Xword : Nat := 53
theorem fn_word_Xword : Tryz.prog.funcs[f_word_Xword]? = some Tryz.f53 := Tryz.func53
abbrev n_word_Xword : Nat := 15
theorem nt_word_Xword : Tryz.f53.ntmps = n_word_Xword := Tryz.ntmps53
abbrev k_word_Xword : List Nat := [0, 1, 4, 9]
abbrev rs_word_Xword : List ResultVar := [.tmp 4]
theorem cal_word_Xword : Sx.Callee Tryz.prog f_word_Xword := ⟨_, Tryz.func53, by kernel_rfl, by kernel_rfl⟩
noncomputable abbrev in_word_Xword (ct : CT) : Ent := .st (inlS tt ct n_word_Xword k_word_Xword rs_word_Xword 60 (Tryz.f53.body.getD .skip))
theorem in_word_Xword_ok {ct : CT} (h : CTok Tryz.prog ct) : EntOk Tryz.prog f_word_Xword (in_word_Xword ct) := inl_ok tt_ok h 60 fn_word_Xword rfl nt_word_Xword rfl cal_word_Xword (by kernel_rfl)
@[match_pattern] abbrev f_word_Cword : Nat := 54
theorem fn_word_Cword : Tryz.prog.funcs[f_word_Cword]? = some Tryz.f54 := Tryz.func54
abbrev n_word_Cword : Nat := 16
theorem nt_word_Cword : Tryz.f54.ntmps = n_word_Cword := Tryz.ntmps54
abbrev k_word_Cword : List Nat := [0, 1, 4, 5]
abbrev rs_word_Cword : List ResultVar := [.tmp 4, .tmp 5]
theorem cal_word_Cword : Sx.Callee Tryz.prog f_word_Cword := ⟨_, Tryz.func54, by kernel_rfl, by kernel_rfl⟩
noncomputable abbrev in_word_Cword (ct : CT) : Ent := .st (inlS tt ct n_word_Cword k_word_Cword rs_word_Cword 60 (Tryz.f54.body.getD .skip))
theorem in_word_Cword_ok {ct : CT} (h : CTok Tryz.prog ct) : EntOk Tryz.prog f_word_Cword (in_word_Cword ct) := inl_ok tt_ok h 60 fn_word_Cword rfl nt_word_Cword rfl cal_word_Cword (by kernel_rfl)
@[match_pattern] abbrev f_word_Csub0 : Nat := 55
theorem fn_word_Csub0 : Tryz.prog.funcs[f_word_Csub0]? = some Tryz.f55 := Tryz.func55
abbrev n_word_Csub0 : Nat := 12
theorem nt_word_Csub0 : Tryz.f55.ntmps = n_word_Csub0 := Tryz.ntmps55
abbrev k_word_Csub0 : List Nat := [0, 1, 4, 5]
abbrev rs_word_Csub0 : List ResultVar := [.tmp 4, .tmp 5]
theorem cal_word_Csub0 : Sx.Callee Tryz.prog f_word_Csub0 := ⟨_, Tryz.func55, by kernel_rfl, by kernel_rfl⟩
noncomputable abbrev in_word_Csub0 (ct : CT) : Ent := .st (inlS tt ct n_word_Csub0 k_word_Csub0 rs_word_Csub0 60 (Tryz.f55.body.getD .skip))
theorem in_word_Csub0_ok {ct : CT} (h : CTok Tryz.prog ct) : EntOk Tryz.prog f_word_Csub0 (in_word_Csub0 ct) := inl_ok tt_ok h 60 fn_word_Csub0 rfl nt_word_Csub0 rfl cal_word_Csub0 (by kernel_rfl)
@[match_pattern] abbrev f_word_Ccnt1 : Nat := 56
theorem fn_word_Ccnt1 : Tryz.prog.funcs[f_word_Ccnt1]? = some Tryz.f56 := Tryz.func56
abbrev n_word_Ccnt1 : Nat := 16
theorem nt_word_Ccnt1 : Tryz.f56.ntmps = n_word_Ccnt1 := Tryz.ntmps56
abbrev k_word_Ccnt1 : List Nat := [0, 1, 4, 5]
abbrev rs_word_Ccnt1 : List ResultVar := [.tmp 4, .tmp 5]
theorem cal_word_Ccnt1 : Sx.Callee Tryz.prog f_word_Ccnt1 := ⟨_, Tryz.func56, by kernel_rfl, by kernel_rfl⟩
noncomputable abbrev in_word_Ccnt1 (ct : CT) : Ent := .st (inlS tt ct n_word_Ccnt1 k_word_Ccnt1 rs_word_Ccnt1 60 (Tryz.f56.body.getD .skip))
theorem in_word_Ccnt1_ok {ct : CT} (h : CTok Tryz.prog ct) : EntOk Tryz.prog f_word_Ccnt1 (in_word_Ccnt1 ct) := inl_ok tt_ok h 60 fn_word_Ccnt1 rfl nt_word_Ccnt1 rfl cal_word_Ccnt1 (by kernel_rfl)
@[match_pattern] abbrev f_word_Sum : Nat := 57
theorem fn_word_Sum : Tryz.prog.funcs[f_word_Sum]? = some Tryz.f57 := Tryz.func57
abbrev n_word_Sum : Nat := 8
theorem nt_word_Sum : Tryz.f57.ntmps = n_word_Sum := Tryz.ntmps57
abbrev k_word_Sum : List Nat := [0, 1, 4]
abbrev rs_word_Sum : List ResultVar := [.tmp 4]
theorem cal_word_Sum : Sx.Callee Tryz.prog f_word_Sum := ⟨_, Tryz.func57, by kernel_rfl, by kernel_rfl⟩
noncomputable abbrev in_word_Sum (ct : CT) : Ent := .st (inlS tt ct n_word_Sum k_word_Sum rs_word_Sum 60 (Tryz.f57.body.getD .skip))
theorem in_word_Sum_ok {ct : CT} (h : CTok Tryz.prog ct) : EntOk Tryz.prog f_word_Sum (in_word_Sum ct) := inl_ok tt_ok h 60 fn_word_Sum rfl nt_word_Sum rfl cal_word_Sum (by kernel_rfl)
@[match_pattern] abbrev f_word_Diff : Nat := 58
theorem fn_word_Diff : Tryz.prog.funcs[f_word_Diff]? = some Tryz.f58 := Tryz.func58
abbrev n_word_Diff : Nat := 8
theorem nt_word_Diff : Tryz.f58.ntmps = n_word_Diff := Tryz.ntmps58
abbrev k_word_Diff : List Nat := [0, 1, 4]
abbrev rs_word_Diff : List ResultVar := [.tmp 4]
theorem cal_word_Diff : Sx.Callee Tryz.prog f_word_Diff := ⟨_, Tryz.func58, by kernel_rfl, by kernel_rfl⟩
noncomputable abbrev in_word_Diff (ct : CT) : Ent := .st (inlS tt ct n_word_Diff k_word_Diff rs_word_Diff 60 (Tryz.f58.body.getD .skip))
theorem in_word_Diff_ok {ct : CT} (h : CTok Tryz.prog ct) : EntOk Tryz.prog f_word_Diff (in_word_Diff ct) := inl_ok tt_ok h 60 fn_word_Diff rfl nt_word_Diff rfl cal_word_Diff (by kernel_rfl)
@[match_pattern] abbrev f_word_Prod : Nat := 59
theorem fn_word_Prod : Tryz.prog.funcs[f_word_Prod]? = some Tryz.f59 := Tryz.func59
abbrev n_word_Prod : Nat := 8
theorem nt_word_Prod : Tryz.f59.ntmps = n_word_Prod := Tryz.ntmps59
abbrev k_word_Prod : List Nat := [0, 1, 4]
abbrev rs_word_Prod : List ResultVar := [.tmp 4]
theorem cal_word_Prod : Sx.Callee Tryz.prog f_word_Prod := ⟨_, Tryz.func59, by kernel_rfl, by kernel_rfl⟩
noncomputable abbrev in_word_Prod (ct : CT) : Ent := .st (inlS tt ct n_word_Prod k_word_Prod rs_word_Prod 60 (Tryz.f59.body.getD .skip))
theorem in_word_Prod_ok {ct : CT} (h : CTok Tryz.prog ct) : EntOk Tryz.prog f_word_Prod (in_word_Prod ct) := inl_ok tt_ok h 60 fn_word_Prod rfl nt_word_Prod rfl cal_word_Prod (by kernel_rfl)
@[match_pattern] abbrev f_word_Shl : Nat := 60
theorem fn_word_Shl : Tryz.prog.funcs[f_word_Shl]? = some Tryz.f60 := Tryz.func60
abbrev n_word_Shl : Nat := 21
theorem nt_word_Shl : Tryz.f60.ntmps = n_word_Shl := Tryz.ntmps60
abbrev k_word_Shl : List Nat := [0, 1, 4, 5, 9]
abbrev rs_word_Shl : List ResultVar := [.tmp 4]
theorem cal_word_Shl : Sx.Callee Tryz.prog f_word_Shl := ⟨_, Tryz.func60, by kernel_rfl, by kernel_rfl⟩
noncomputable abbrev in_word_Shl (ct : CT) : Ent := .st (inlS tt ct n_word_Shl k_word_Shl rs_word_Shl 60 (Tryz.f60.body.getD .skip))
theorem in_word_Shl_ok {ct : CT} (h : CTok Tryz.prog ct) : EntOk Tryz.prog f_word_Shl (in_word_Shl ct) := inl_ok tt_ok h 60 fn_word_Shl rfl nt_word_Shl rfl cal_word_Shl (by kernel_rfl)
@[match_pattern] abbrev f_word_Shr : Nat := 61
theorem fn_word_Shr : Tryz.prog.funcs[f_word_Shr]? = some Tryz.f61 := Tryz.func61
abbrev n_word_Shr : Nat := 11
theorem nt_word_Shr : Tryz.f61.ntmps = n_word_Shr := Tryz.ntmps61
abbrev k_word_Shr : List Nat := [0, 1, 4]
abbrev rs_word_Shr : List ResultVar := [.tmp 4]
theorem cal_word_Shr : Sx.Callee Tryz.prog f_word_Shr := ⟨_, Tryz.func61, by kernel_rfl, by kernel_rfl⟩
noncomputable abbrev in_word_Shr (ct : CT) : Ent := .st (inlS tt ct n_word_Shr k_word_Shr rs_word_Shr 60 (Tryz.f61.body.getD .skip))
theorem in_word_Shr_ok {ct : CT} (h : CTok Tryz.prog ct) : EntOk Tryz.prog f_word_Shr (in_word_Shr ct) := inl_ok tt_ok h 60 fn_word_Shr rfl nt_word_Shr rfl cal_word_Shr (by kernel_rfl)
@[match_pattern] abbrev f_cpu_binary_1 : Nat := 62
theorem fn_cpu_binary_1 : Tryz.prog.funcs[f_cpu_binary_1]? = some Tryz.f62 := Tryz.func62
abbrev n_cpu_binary_1 : Nat := 8
theorem nt_cpu_binary_1 : Tryz.f62.ntmps = n_cpu_binary_1 := Tryz.ntmps62
abbrev k_cpu_binary_1 : List Nat := [0, 1, 4]
abbrev rs_cpu_binary_1 : List ResultVar := [.tmp 4]
theorem cal_cpu_binary_1 : Sx.Callee Tryz.prog f_cpu_binary_1 := ⟨_, Tryz.func62, by kernel_rfl, by kernel_rfl⟩
noncomputable abbrev in_cpu_binary_1 (ct : CT) : Ent := .st (inlS tt ct n_cpu_binary_1 k_cpu_binary_1 rs_cpu_binary_1 60 (Tryz.f62.body.getD .skip))
theorem in_cpu_binary_1_ok {ct : CT} (h : CTok Tryz.prog ct) : EntOk Tryz.prog f_cpu_binary_1 (in_cpu_binary_1 ct) := inl_ok tt_ok h 60 fn_cpu_binary_1 rfl nt_cpu_binary_1 rfl cal_cpu_binary_1 (by kernel_rfl)
@[match_pattern] abbrev f_cpu_binary_2 : Nat := 63
theorem fn_cpu_binary_2 : Tryz.prog.funcs[f_cpu_binary_2]? = some Tryz.f63 := Tryz.func63
abbrev n_cpu_binary_2 : Nat := 8
theorem nt_cpu_binary_2 : Tryz.f63.ntmps = n_cpu_binary_2 := Tryz.ntmps63
abbrev k_cpu_binary_2 : List Nat := [0, 1, 4]
abbrev rs_cpu_binary_2 : List ResultVar := [.tmp 4]
theorem cal_cpu_binary_2 : Sx.Callee Tryz.prog f_cpu_binary_2 := ⟨_, Tryz.func63, by kernel_rfl, by kernel_rfl⟩
noncomputable abbrev in_cpu_binary_2 (ct : CT) : Ent := .st (inlS tt ct n_cpu_binary_2 k_cpu_binary_2 rs_cpu_binary_2 60 (Tryz.f63.body.getD .skip))
theorem in_cpu_binary_2_ok {ct : CT} (h : CTok Tryz.prog ct) : EntOk Tryz.prog f_cpu_binary_2 (in_cpu_binary_2 ct) := inl_ok tt_ok h 60 fn_cpu_binary_2 rfl nt_cpu_binary_2 rfl cal_cpu_binary_2 (by kernel_rfl)
@[match_pattern] abbrev f_cpu_binary_3 : Nat := 64
theorem fn_cpu_binary_3 : Tryz.prog.funcs[f_cpu_binary_3]? = some Tryz.f64 := Tryz.func64
abbrev n_cpu_binary_3 : Nat := 8
theorem nt_cpu_binary_3 : Tryz.f64.ntmps = n_cpu_binary_3 := Tryz.ntmps64
abbrev k_cpu_binary_3 : List Nat := [0, 1, 4]
abbrev rs_cpu_binary_3 : List ResultVar := [.tmp 4]
theorem cal_cpu_binary_3 : Sx.Callee Tryz.prog f_cpu_binary_3 := ⟨_, Tryz.func64, by kernel_rfl, by kernel_rfl⟩
noncomputable abbrev in_cpu_binary_3 (ct : CT) : Ent := .st (inlS tt ct n_cpu_binary_3 k_cpu_binary_3 rs_cpu_binary_3 60 (Tryz.f64.body.getD .skip))
theorem in_cpu_binary_3_ok {ct : CT} (h : CTok Tryz.prog ct) : EntOk Tryz.prog f_cpu_binary_3 (in_cpu_binary_3 ct) := inl_ok tt_ok h 60 fn_cpu_binary_3 rfl nt_cpu_binary_3 rfl cal_cpu_binary_3 (by kernel_rfl)
@[match_pattern] abbrev f_cpu_binary_4 : Nat := 65
theorem fn_cpu_binary_4 : Tryz.prog.funcs[f_cpu_binary_4]? = some Tryz.f65 := Tryz.func65
abbrev n_cpu_binary_4 : Nat := 9
theorem nt_cpu_binary_4 : Tryz.f65.ntmps = n_cpu_binary_4 := Tryz.ntmps65
abbrev k_cpu_binary_4 : List Nat := [0, 1, 4]
abbrev rs_cpu_binary_4 : List ResultVar := [.tmp 4]
theorem cal_cpu_binary_4 : Sx.Callee Tryz.prog f_cpu_binary_4 := ⟨_, Tryz.func65, by kernel_rfl, by kernel_rfl⟩
noncomputable abbrev in_cpu_binary_4 (ct : CT) : Ent := .st (inlS tt ct n_cpu_binary_4 k_cpu_binary_4 rs_cpu_binary_4 60 (Tryz.f65.body.getD .skip))
theorem in_cpu_binary_4_ok {ct : CT} (h : CTok Tryz.prog ct) : EntOk Tryz.prog f_cpu_binary_4 (in_cpu_binary_4 ct) := inl_ok tt_ok h 60 fn_cpu_binary_4 rfl nt_cpu_binary_4 rfl cal_cpu_binary_4 (by kernel_rfl)
@[match_pattern] abbrev f_cpu_binary_5 : Nat := 66
theorem fn_cpu_binary_5 : Tryz.prog.funcs[f_cpu_binary_5]? = some Tryz.f66 := Tryz.func66
abbrev n_cpu_binary_5 : Nat := 8
theorem nt_cpu_binary_5 : Tryz.f66.ntmps = n_cpu_binary_5 := Tryz.ntmps66
abbrev k_cpu_binary_5 : List Nat := [0, 1, 4]
abbrev rs_cpu_binary_5 : List ResultVar := [.tmp 4]
theorem cal_cpu_binary_5 : Sx.Callee Tryz.prog f_cpu_binary_5 := ⟨_, Tryz.func66, by kernel_rfl, by kernel_rfl⟩
noncomputable abbrev in_cpu_binary_5 (ct : CT) : Ent := .st (inlS tt ct n_cpu_binary_5 k_cpu_binary_5 rs_cpu_binary_5 60 (Tryz.f66.body.getD .skip))
theorem in_cpu_binary_5_ok {ct : CT} (h : CTok Tryz.prog ct) : EntOk Tryz.prog f_cpu_binary_5 (in_cpu_binary_5 ct) := inl_ok tt_ok h 60 fn_cpu_binary_5 rfl nt_cpu_binary_5 rfl cal_cpu_binary_5 (by kernel_rfl)
@[match_pattern] abbrev f_mem_Bsub : Nat := 67
theorem fn_mem_Bsub : Tryz.prog.funcs[f_mem_Bsub]? = some Tryz.f67 := Tryz.func67
abbrev n_mem_Bsub : Nat := 8
theorem nt_mem_Bsub : Tryz.f67.ntmps = n_mem_Bsub := Tryz.ntmps67
abbrev k_mem_Bsub : List Nat := [0, 1, 4]
abbrev rs_mem_Bsub : List ResultVar := [.tmp 4]
theorem cal_mem_Bsub : Sx.Callee Tryz.prog f_mem_Bsub := ⟨_, Tryz.func67, by kernel_rfl, by kernel_rfl⟩
noncomputable abbrev in_mem_Bsub (ct : CT) : Ent := .st (inlS tt ct n_mem_Bsub k_mem_Bsub rs_mem_Bsub 60 (Tryz.f67.body.getD .skip))
theorem in_mem_Bsub_ok {ct : CT} (h : CTok Tryz.prog ct) : EntOk Tryz.prog f_mem_Bsub (in_mem_Bsub ct) := inl_ok tt_ok h 60 fn_mem_Bsub rfl nt_mem_Bsub rfl cal_mem_Bsub (by kernel_rfl)
@[match_pattern] abbrev f_cpu_binary_6 : Nat := 68
theorem fn_cpu_binary_6 : Tryz.prog.funcs[f_cpu_binary_6]? = some Tryz.f68 := Tryz.func68
abbrev n_cpu_binary_6 : Nat := 8
theorem nt_cpu_binary_6 : Tryz.f68.ntmps = n_cpu_binary_6 := Tryz.ntmps68
abbrev k_cpu_binary_6 : List Nat := [0, 1, 4]
abbrev rs_cpu_binary_6 : List ResultVar := [.tmp 4]
theorem cal_cpu_binary_6 : Sx.Callee Tryz.prog f_cpu_binary_6 := ⟨_, Tryz.func68, by kernel_rfl, by kernel_rfl⟩
noncomputable abbrev in_cpu_binary_6 (ct : CT) : Ent := .st (inlS tt ct n_cpu_binary_6 k_cpu_binary_6 rs_cpu_binary_6 60 (Tryz.f68.body.getD .skip))
theorem in_cpu_binary_6_ok {ct : CT} (h : CTok Tryz.prog ct) : EntOk Tryz.prog f_cpu_binary_6 (in_cpu_binary_6 ct) := inl_ok tt_ok h 60 fn_cpu_binary_6 rfl nt_cpu_binary_6 rfl cal_cpu_binary_6 (by kernel_rfl)
@[match_pattern] abbrev f_mem_Wsub : Nat := 69
theorem fn_mem_Wsub : Tryz.prog.funcs[f_mem_Wsub]? = some Tryz.f69 := Tryz.func69
abbrev n_mem_Wsub : Nat := 9
theorem nt_mem_Wsub : Tryz.f69.ntmps = n_mem_Wsub := Tryz.ntmps69
abbrev k_mem_Wsub : List Nat := [0, 1, 4]
abbrev rs_mem_Wsub : List ResultVar := [.tmp 4]
theorem cal_mem_Wsub : Sx.Callee Tryz.prog f_mem_Wsub := ⟨_, Tryz.func69, by kernel_rfl, by kernel_rfl⟩
noncomputable abbrev in_mem_Wsub (ct : CT) : Ent := .st (inlS tt ct n_mem_Wsub k_mem_Wsub rs_mem_Wsub 60 (Tryz.f69.body.getD .skip))
theorem in_mem_Wsub_ok {ct : CT} (h : CTok Tryz.prog ct) : EntOk Tryz.prog f_mem_Wsub (in_mem_Wsub ct) := inl_ok tt_ok h 60 fn_mem_Wsub rfl nt_mem_Wsub rfl cal_mem_Wsub (by kernel_rfl)
@[match_pattern] abbrev f_cpu_machine_rev : Nat := 70
theorem fn_cpu_machine_rev : Tryz.prog.funcs[f_cpu_machine_rev]? = some Tryz.f70 := Tryz.func70
abbrev n_cpu_machine_rev : Nat := 20
theorem nt_cpu_machine_rev : Tryz.f70.ntmps = n_cpu_machine_rev := Tryz.ntmps70
abbrev k_cpu_machine_rev : List Nat := [0]
abbrev rs_cpu_machine_rev : List ResultVar := []
theorem cal_cpu_machine_rev : Sx.Callee Tryz.prog f_cpu_machine_rev := ⟨_, Tryz.func70, by kernel_rfl, by kernel_rfl⟩
noncomputable abbrev in_cpu_machine_rev (ct : CT) : Ent := .st (inlS tt ct n_cpu_machine_rev k_cpu_machine_rev rs_cpu_machine_rev 60 (Tryz.f70.body.getD .skip))
theorem in_cpu_machine_rev_ok {ct : CT} (h : CTok Tryz.prog ct) : EntOk Tryz.prog f_cpu_machine_rev (in_cpu_machine_rev ct) := inl_ok tt_ok h 60 fn_cpu_machine_rev rfl nt_cpu_machine_rev rfl cal_cpu_machine_rev (by kernel_rfl)
@[match_pattern] abbrev f_cpu_machine_not : Nat := 71
theorem fn_cpu_machine_not : Tryz.prog.funcs[f_cpu_machine_not]? = some Tryz.f71 := Tryz.func71
abbrev n_cpu_machine_not : Nat := 12
theorem nt_cpu_machine_not : Tryz.f71.ntmps = n_cpu_machine_not := Tryz.ntmps71
abbrev k_cpu_machine_not : List Nat := [0]
abbrev rs_cpu_machine_not : List ResultVar := []
theorem cal_cpu_machine_not : Sx.Callee Tryz.prog f_cpu_machine_not := ⟨_, Tryz.func71, by kernel_rfl, by kernel_rfl⟩
noncomputable abbrev in_cpu_machine_not (ct : CT) : Ent := .st (inlS tt ct n_cpu_machine_not k_cpu_machine_not rs_cpu_machine_not 60 (Tryz.f71.body.getD .skip))
theorem in_cpu_machine_not_ok {ct : CT} (h : CTok Tryz.prog ct) : EntOk Tryz.prog f_cpu_machine_not (in_cpu_machine_not ct) := inl_ok tt_ok h 60 fn_cpu_machine_not rfl nt_cpu_machine_not rfl cal_cpu_machine_not (by kernel_rfl)
@[match_pattern] abbrev f_cpu_machine_bcnt : Nat := 72
theorem fn_cpu_machine_bcnt : Tryz.prog.funcs[f_cpu_machine_bcnt]? = some Tryz.f72 := Tryz.func72
abbrev n_cpu_machine_bcnt : Nat := 12
theorem nt_cpu_machine_bcnt : Tryz.f72.ntmps = n_cpu_machine_bcnt := Tryz.ntmps72
abbrev k_cpu_machine_bcnt : List Nat := [0]
abbrev rs_cpu_machine_bcnt : List ResultVar := []
theorem cal_cpu_machine_bcnt : Sx.Callee Tryz.prog f_cpu_machine_bcnt := ⟨_, Tryz.func72, by kernel_rfl, by kernel_rfl⟩
noncomputable abbrev in_cpu_machine_bcnt (ct : CT) : Ent := .st (inlS tt ct n_cpu_machine_bcnt k_cpu_machine_bcnt rs_cpu_machine_bcnt 60 (Tryz.f72.body.getD .skip))
theorem in_cpu_machine_bcnt_ok {ct : CT} (h : CTok Tryz.prog ct) : EntOk Tryz.prog f_cpu_machine_bcnt (in_cpu_machine_bcnt ct) := inl_ok tt_ok h 60 fn_cpu_machine_bcnt rfl nt_cpu_machine_bcnt rfl cal_cpu_machine_bcnt (by kernel_rfl)
@[match_pattern] abbrev f_cpu_machine_wcnt : Nat := 73
theorem fn_cpu_machine_wcnt : Tryz.prog.funcs[f_cpu_machine_wcnt]? = some Tryz.f73 := Tryz.func73
abbrev n_cpu_machine_wcnt : Nat := 28
theorem nt_cpu_machine_wcnt : Tryz.f73.ntmps = n_cpu_machine_wcnt := Tryz.ntmps73
abbrev k_cpu_machine_wcnt : List Nat := [0]
abbrev rs_cpu_machine_wcnt : List ResultVar := []
theorem cal_cpu_machine_wcnt : Sx.Callee Tryz.prog f_cpu_machine_wcnt := ⟨_, Tryz.func73, by kernel_rfl, by kernel_rfl⟩
noncomputable abbrev in_cpu_machine_wcnt (ct : CT) : Ent := .st (inlS tt ct n_cpu_machine_wcnt k_cpu_machine_wcnt rs_cpu_machine_wcnt 60 (Tryz.f73.body.getD .skip))
theorem in_cpu_machine_wcnt_ok {ct : CT} (h : CTok Tryz.prog ct) : EntOk Tryz.prog f_cpu_machine_wcnt (in_cpu_machine_wcnt ct) := inl_ok tt_ok h 60 fn_cpu_machine_wcnt rfl nt_cpu_machine_wcnt rfl cal_cpu_machine_wcnt (by kernel_rfl)
@[match_pattern] abbrev f_cpu_machine_mint : Nat := 74
theorem fn_cpu_machine_mint : Tryz.prog.funcs[f_cpu_machine_mint]? = some Tryz.f74 := Tryz.func74
abbrev n_cpu_machine_mint : Nat := 4
theorem nt_cpu_machine_mint : Tryz.f74.ntmps = n_cpu_machine_mint := Tryz.ntmps74
abbrev k_cpu_machine_mint : List Nat := [0]
abbrev rs_cpu_machine_mint : List ResultVar := []
theorem cal_cpu_machine_mint : Sx.Callee Tryz.prog f_cpu_machine_mint := ⟨_, Tryz.func74, by kernel_rfl, by kernel_rfl⟩
noncomputable abbrev in_cpu_machine_mint (ct : CT) : Ent := .st (inlS tt ct n_cpu_machine_mint k_cpu_machine_mint rs_cpu_machine_mint 60 (Tryz.f74.body.getD .skip))
theorem in_cpu_machine_mint_ok {ct : CT} (h : CTok Tryz.prog ct) : EntOk Tryz.prog f_cpu_machine_mint (in_cpu_machine_mint ct) := inl_ok tt_ok h 60 fn_cpu_machine_mint rfl nt_cpu_machine_mint rfl cal_cpu_machine_mint (by kernel_rfl)
@[match_pattern] abbrev f_cpu_machine_ldpi : Nat := 75
theorem fn_cpu_machine_ldpi : Tryz.prog.funcs[f_cpu_machine_ldpi]? = some Tryz.f75 := Tryz.func75
abbrev n_cpu_machine_ldpi : Nat := 16
theorem nt_cpu_machine_ldpi : Tryz.f75.ntmps = n_cpu_machine_ldpi := Tryz.ntmps75
abbrev k_cpu_machine_ldpi : List Nat := [0]
abbrev rs_cpu_machine_ldpi : List ResultVar := []
theorem cal_cpu_machine_ldpi : Sx.Callee Tryz.prog f_cpu_machine_ldpi := ⟨_, Tryz.func75, by kernel_rfl, by kernel_rfl⟩
noncomputable abbrev in_cpu_machine_ldpi (ct : CT) : Ent := .st (inlS tt ct n_cpu_machine_ldpi k_cpu_machine_ldpi rs_cpu_machine_ldpi 60 (Tryz.f75.body.getD .skip))
theorem in_cpu_machine_ldpi_ok {ct : CT} (h : CTok Tryz.prog ct) : EntOk Tryz.prog f_cpu_machine_ldpi (in_cpu_machine_ldpi ct) := inl_ok tt_ok h 60 fn_cpu_machine_ldpi rfl nt_cpu_machine_ldpi rfl cal_cpu_machine_ldpi (by kernel_rfl)
@[match_pattern] abbrev f_cpu_machine_ladd : Nat := 76
theorem fn_cpu_machine_ladd : Tryz.prog.funcs[f_cpu_machine_ladd]? = some Tryz.f76 := Tryz.func76
abbrev n_cpu_machine_ladd : Nat := 31
theorem nt_cpu_machine_ladd : Tryz.f76.ntmps = n_cpu_machine_ladd := Tryz.ntmps76
abbrev k_cpu_machine_ladd : List Nat := [0, 2, 3]
abbrev rs_cpu_machine_ladd : List ResultVar := []
theorem cal_cpu_machine_ladd : Sx.Callee Tryz.prog f_cpu_machine_ladd := ⟨_, Tryz.func76, by kernel_rfl, by kernel_rfl⟩
noncomputable abbrev in_cpu_machine_ladd (ct : CT) : Ent := .st (inlS tt ct n_cpu_machine_ladd k_cpu_machine_ladd rs_cpu_machine_ladd 60 (Tryz.f76.body.getD .skip))
theorem in_cpu_machine_ladd_ok {ct : CT} (h : CTok Tryz.prog ct) : EntOk Tryz.prog f_cpu_machine_ladd (in_cpu_machine_ladd ct) := inl_ok tt_ok h 60 fn_cpu_machine_ladd rfl nt_cpu_machine_ladd rfl cal_cpu_machine_ladd (by kernel_rfl)
@[match_pattern] abbrev f_cpu_machine_lsub : Nat := 77
theorem fn_cpu_machine_lsub : Tryz.prog.funcs[f_cpu_machine_lsub]? = some Tryz.f77 := Tryz.func77
abbrev n_cpu_machine_lsub : Nat := 31
theorem nt_cpu_machine_lsub : Tryz.f77.ntmps = n_cpu_machine_lsub := Tryz.ntmps77
abbrev k_cpu_machine_lsub : List Nat := [0, 2, 3]
abbrev rs_cpu_machine_lsub : List ResultVar := []
theorem cal_cpu_machine_lsub : Sx.Callee Tryz.prog f_cpu_machine_lsub := ⟨_, Tryz.func77, by kernel_rfl, by kernel_rfl⟩
noncomputable abbrev in_cpu_machine_lsub (ct : CT) : Ent := .st (inlS tt ct n_cpu_machine_lsub k_cpu_machine_lsub rs_cpu_machine_lsub 60 (Tryz.f77.body.getD .skip))
theorem in_cpu_machine_lsub_ok {ct : CT} (h : CTok Tryz.prog ct) : EntOk Tryz.prog f_cpu_machine_lsub (in_cpu_machine_lsub ct) := inl_ok tt_ok h 60 fn_cpu_machine_lsub rfl nt_cpu_machine_lsub rfl cal_cpu_machine_lsub (by kernel_rfl)
@[match_pattern] abbrev f_cpu_machine_lsum : Nat := 78
theorem fn_cpu_machine_lsum : Tryz.prog.funcs[f_cpu_machine_lsum]? = some Tryz.f78 := Tryz.func78
abbrev n_cpu_machine_lsum : Nat := 29
theorem nt_cpu_machine_lsum : Tryz.f78.ntmps = n_cpu_machine_lsum := Tryz.ntmps78
abbrev k_cpu_machine_lsum : List Nat := [0]
abbrev rs_cpu_machine_lsum : List ResultVar := []
theorem cal_cpu_machine_lsum : Sx.Callee Tryz.prog f_cpu_machine_lsum := ⟨_, Tryz.func78, by kernel_rfl, by kernel_rfl⟩
noncomputable abbrev in_cpu_machine_lsum (ct : CT) : Ent := .st (inlS tt ct n_cpu_machine_lsum k_cpu_machine_lsum rs_cpu_machine_lsum 60 (Tryz.f78.body.getD .skip))
theorem in_cpu_machine_lsum_ok {ct : CT} (h : CTok Tryz.prog ct) : EntOk Tryz.prog f_cpu_machine_lsum (in_cpu_machine_lsum ct) := inl_ok tt_ok h 60 fn_cpu_machine_lsum rfl nt_cpu_machine_lsum rfl cal_cpu_machine_lsum (by kernel_rfl)
@[match_pattern] abbrev f_cpu_machine_ldiff : Nat := 79
theorem fn_cpu_machine_ldiff : Tryz.prog.funcs[f_cpu_machine_ldiff]? = some Tryz.f79 := Tryz.func79
abbrev n_cpu_machine_ldiff : Nat := 29
theorem nt_cpu_machine_ldiff : Tryz.f79.ntmps = n_cpu_machine_ldiff := Tryz.ntmps79
abbrev k_cpu_machine_ldiff : List Nat := [0]
abbrev rs_cpu_machine_ldiff : List ResultVar := []
theorem cal_cpu_machine_ldiff : Sx.Callee Tryz.prog f_cpu_machine_ldiff := ⟨_, Tryz.func79, by kernel_rfl, by kernel_rfl⟩
noncomputable abbrev in_cpu_machine_ldiff (ct : CT) : Ent := .st (inlS tt ct n_cpu_machine_ldiff k_cpu_machine_ldiff rs_cpu_machine_ldiff 60 (Tryz.f79.body.getD .skip))
theorem in_cpu_machine_ldiff_ok {ct : CT} (h : CTok Tryz.prog ct) : EntOk Tryz.prog f_cpu_machine_ldiff (in_cpu_machine_ldiff ct) := inl_ok tt_ok h 60 fn_cpu_machine_ldiff rfl nt_cpu_machine_ldiff rfl cal_cpu_machine_ldiff (by kernel_rfl)
@[match_pattern] abbrev f_cpu_machine_lmul : Nat := 80
theorem fn_cpu_machine_lmul : Tryz.prog.funcs[f_cpu_machine_lmul]? = some Tryz.f80 := Tryz.func80
abbrev n_cpu_machine_lmul : Nat := 29
theorem nt_cpu_machine_lmul : Tryz.f80.ntmps = n_cpu_machine_lmul := Tryz.ntmps80
abbrev k_cpu_machine_lmul : List Nat := [0]
abbrev rs_cpu_machine_lmul : List ResultVar := []
theorem cal_cpu_machine_lmul : Sx.Callee Tryz.prog f_cpu_machine_lmul := ⟨_, Tryz.func80, by kernel_rfl, by kernel_rfl⟩
noncomputable abbrev in_cpu_machine_lmul (ct : CT) : Ent := .st (inlS tt ct n_cpu_machine_lmul k_cpu_machine_lmul rs_cpu_machine_lmul 60 (Tryz.f80.body.getD .skip))
theorem in_cpu_machine_lmul_ok {ct : CT} (h : CTok Tryz.prog ct) : EntOk Tryz.prog f_cpu_machine_lmul (in_cpu_machine_lmul ct) := inl_ok tt_ok h 60 fn_cpu_machine_lmul rfl nt_cpu_machine_lmul rfl cal_cpu_machine_lmul (by kernel_rfl)
@[match_pattern] abbrev f_cpu_machine_ldiv : Nat := 81
theorem fn_cpu_machine_ldiv : Tryz.prog.funcs[f_cpu_machine_ldiv]? = some Tryz.f81 := Tryz.func81
abbrev n_cpu_machine_ldiv : Nat := 38
theorem nt_cpu_machine_ldiv : Tryz.f81.ntmps = n_cpu_machine_ldiv := Tryz.ntmps81
abbrev k_cpu_machine_ldiv : List Nat := [0, 2, 3, 4]
abbrev rs_cpu_machine_ldiv : List ResultVar := []
theorem cal_cpu_machine_ldiv : Sx.Callee Tryz.prog f_cpu_machine_ldiv := ⟨_, Tryz.func81, by kernel_rfl, by kernel_rfl⟩
noncomputable abbrev in_cpu_machine_ldiv (ct : CT) : Ent := .st (inlS tt ct n_cpu_machine_ldiv k_cpu_machine_ldiv rs_cpu_machine_ldiv 60 (Tryz.f81.body.getD .skip))
theorem in_cpu_machine_ldiv_ok {ct : CT} (h : CTok Tryz.prog ct) : EntOk Tryz.prog f_cpu_machine_ldiv (in_cpu_machine_ldiv ct) := inl_ok tt_ok h 60 fn_cpu_machine_ldiv rfl nt_cpu_machine_ldiv rfl cal_cpu_machine_ldiv (by kernel_rfl)
@[match_pattern] abbrev f_cpu_machine_lshl : Nat := 82
theorem fn_cpu_machine_lshl : Tryz.prog.funcs[f_cpu_machine_lshl]? = some Tryz.f82 := Tryz.func82
abbrev n_cpu_machine_lshl : Nat := 29
theorem nt_cpu_machine_lshl : Tryz.f82.ntmps = n_cpu_machine_lshl := Tryz.ntmps82
abbrev k_cpu_machine_lshl : List Nat := [0]
abbrev rs_cpu_machine_lshl : List ResultVar := []
theorem cal_cpu_machine_lshl : Sx.Callee Tryz.prog f_cpu_machine_lshl := ⟨_, Tryz.func82, by kernel_rfl, by kernel_rfl⟩
noncomputable abbrev in_cpu_machine_lshl (ct : CT) : Ent := .st (inlS tt ct n_cpu_machine_lshl k_cpu_machine_lshl rs_cpu_machine_lshl 60 (Tryz.f82.body.getD .skip))
theorem in_cpu_machine_lshl_ok {ct : CT} (h : CTok Tryz.prog ct) : EntOk Tryz.prog f_cpu_machine_lshl (in_cpu_machine_lshl ct) := inl_ok tt_ok h 60 fn_cpu_machine_lshl rfl nt_cpu_machine_lshl rfl cal_cpu_machine_lshl (by kernel_rfl)
@[match_pattern] abbrev f_cpu_machine_lshr : Nat := 83
theorem fn_cpu_machine_lshr : Tryz.prog.funcs[f_cpu_machine_lshr]? = some Tryz.f83 := Tryz.func83
abbrev n_cpu_machine_lshr : Nat := 29
theorem nt_cpu_machine_lshr : Tryz.f83.ntmps = n_cpu_machine_lshr := Tryz.ntmps83
abbrev k_cpu_machine_lshr : List Nat := [0]
abbrev rs_cpu_machine_lshr : List ResultVar := []
theorem cal_cpu_machine_lshr : Sx.Callee Tryz.prog f_cpu_machine_lshr := ⟨_, Tryz.func83, by kernel_rfl, by kernel_rfl⟩
noncomputable abbrev in_cpu_machine_lshr (ct : CT) : Ent := .st (inlS tt ct n_cpu_machine_lshr k_cpu_machine_lshr rs_cpu_machine_lshr 60 (Tryz.f83.body.getD .skip))
theorem in_cpu_machine_lshr_ok {ct : CT} (h : CTok Tryz.prog ct) : EntOk Tryz.prog f_cpu_machine_lshr (in_cpu_machine_lshr ct) := inl_ok tt_ok h 60 fn_cpu_machine_lshr rfl nt_cpu_machine_lshr rfl cal_cpu_machine_lshr (by kernel_rfl)
@[match_pattern] abbrev f_cpu_machine_norm : Nat := 84
theorem fn_cpu_machine_norm : Tryz.prog.funcs[f_cpu_machine_norm]? = some Tryz.f84 := Tryz.func84
abbrev n_cpu_machine_norm : Nat := 29
theorem nt_cpu_machine_norm : Tryz.f84.ntmps = n_cpu_machine_norm := Tryz.ntmps84
abbrev k_cpu_machine_norm : List Nat := [0]
abbrev rs_cpu_machine_norm : List ResultVar := []
theorem cal_cpu_machine_norm : Sx.Callee Tryz.prog f_cpu_machine_norm := ⟨_, Tryz.func84, by kernel_rfl, by kernel_rfl⟩
noncomputable abbrev in_cpu_machine_norm (ct : CT) : Ent := .st (inlS tt ct n_cpu_machine_norm k_cpu_machine_norm rs_cpu_machine_norm 60 (Tryz.f84.body.getD .skip))
theorem in_cpu_machine_norm_ok {ct : CT} (h : CTok Tryz.prog ct) : EntOk Tryz.prog f_cpu_machine_norm (in_cpu_machine_norm ct) := inl_ok tt_ok h 60 fn_cpu_machine_norm rfl nt_cpu_machine_norm rfl cal_cpu_machine_norm (by kernel_rfl)
@[match_pattern] abbrev f_cpu_machine_xdble : Nat := 85
theorem fn_cpu_machine_xdble : Tryz.prog.funcs[f_cpu_machine_xdble]? = some Tryz.f85 := Tryz.func85
abbrev n_cpu_machine_xdble : Nat := 28
theorem nt_cpu_machine_xdble : Tryz.f85.ntmps = n_cpu_machine_xdble := Tryz.ntmps85
abbrev k_cpu_machine_xdble : List Nat := [0]
abbrev rs_cpu_machine_xdble : List ResultVar := []
theorem cal_cpu_machine_xdble : Sx.Callee Tryz.prog f_cpu_machine_xdble := ⟨_, Tryz.func85, by kernel_rfl, by kernel_rfl⟩
noncomputable abbrev in_cpu_machine_xdble (ct : CT) : Ent := .st (inlS tt ct n_cpu_machine_xdble k_cpu_machine_xdble rs_cpu_machine_xdble 60 (Tryz.f85.body.getD .skip))
theorem in_cpu_machine_xdble_ok {ct : CT} (h : CTok Tryz.prog ct) : EntOk Tryz.prog f_cpu_machine_xdble (in_cpu_machine_xdble ct) := inl_ok tt_ok h 60 fn_cpu_machine_xdble rfl nt_cpu_machine_xdble rfl cal_cpu_machine_xdble (by kernel_rfl)
@[match_pattern] abbrev f_cpu_machine_csngl : Nat := 86
theorem fn_cpu_machine_csngl : Tryz.prog.funcs[f_cpu_machine_csngl]? = some Tryz.f86 := Tryz.func86
abbrev n_cpu_machine_csngl : Nat := 35
theorem nt_cpu_machine_csngl : Tryz.f86.ntmps = n_cpu_machine_csngl := Tryz.ntmps86
abbrev k_cpu_machine_csngl : List Nat := [0, 2, 3]
abbrev rs_cpu_machine_csngl : List ResultVar := []
theorem cal_cpu_machine_csngl : Sx.Callee Tryz.prog f_cpu_machine_csngl := ⟨_, Tryz.func86, by kernel_rfl, by kernel_rfl⟩
noncomputable abbrev in_cpu_machine_csngl (ct : CT) : Ent := .st (inlS tt ct n_cpu_machine_csngl k_cpu_machine_csngl rs_cpu_machine_csngl 60 (Tryz.f86.body.getD .skip))
theorem in_cpu_machine_csngl_ok {ct : CT} (h : CTok Tryz.prog ct) : EntOk Tryz.prog f_cpu_machine_csngl (in_cpu_machine_csngl ct) := inl_ok tt_ok h 60 fn_cpu_machine_csngl rfl nt_cpu_machine_csngl rfl cal_cpu_machine_csngl (by kernel_rfl)
@[match_pattern] abbrev f_cpu_machine_lb : Nat := 87
theorem fn_cpu_machine_lb : Tryz.prog.funcs[f_cpu_machine_lb]? = some Tryz.f87 := Tryz.func87
abbrev n_cpu_machine_lb : Nat := 26
theorem nt_cpu_machine_lb : Tryz.f87.ntmps = n_cpu_machine_lb := Tryz.ntmps87
abbrev k_cpu_machine_lb : List Nat := [0, 2, 3]
abbrev rs_cpu_machine_lb : List ResultVar := []
theorem cal_cpu_machine_lb : Sx.Callee Tryz.prog f_cpu_machine_lb := ⟨_, Tryz.func87, by kernel_rfl, by kernel_rfl⟩
noncomputable abbrev in_cpu_machine_lb (ct : CT) : Ent := .st (inlS tt ct n_cpu_machine_lb k_cpu_machine_lb rs_cpu_machine_lb 60 (Tryz.f87.body.getD .skip))
theorem in_cpu_machine_lb_ok {ct : CT} (h : CTok Tryz.prog ct) : EntOk Tryz.prog f_cpu_machine_lb (in_cpu_machine_lb ct) := inl_ok tt_ok h 60 fn_cpu_machine_lb rfl nt_cpu_machine_lb rfl cal_cpu_machine_lb (by kernel_rfl)
@[match_pattern] abbrev f_cpu_machine_sb : Nat := 88
theorem fn_cpu_machine_sb : Tryz.prog.funcs[f_cpu_machine_sb]? = some Tryz.f88 := Tryz.func88
abbrev n_cpu_machine_sb : Nat := 24
theorem nt_cpu_machine_sb : Tryz.f88.ntmps = n_cpu_machine_sb := Tryz.ntmps88
abbrev k_cpu_machine_sb : List Nat := [0]
abbrev rs_cpu_machine_sb : List ResultVar := []
theorem cal_cpu_machine_sb : Sx.Callee Tryz.prog f_cpu_machine_sb := ⟨_, Tryz.func88, by kernel_rfl, by kernel_rfl⟩
noncomputable abbrev in_cpu_machine_sb (ct : CT) : Ent := .st (inlS tt ct n_cpu_machine_sb k_cpu_machine_sb rs_cpu_machine_sb 60 (Tryz.f88.body.getD .skip))
theorem in_cpu_machine_sb_ok {ct : CT} (h : CTok Tryz.prog ct) : EntOk Tryz.prog f_cpu_machine_sb (in_cpu_machine_sb ct) := inl_ok tt_ok h 60 fn_cpu_machine_sb rfl nt_cpu_machine_sb rfl cal_cpu_machine_sb (by kernel_rfl)
@[match_pattern] abbrev f_cpu_machine_move : Nat := 89
theorem fn_cpu_machine_move : Tryz.prog.funcs[f_cpu_machine_move]? = some Tryz.f89 := Tryz.func89
abbrev n_cpu_machine_move : Nat := 24
theorem nt_cpu_machine_move : Tryz.f89.ntmps = n_cpu_machine_move := Tryz.ntmps89
abbrev k_cpu_machine_move : List Nat := [0]
abbrev rs_cpu_machine_move : List ResultVar := []
theorem cal_cpu_machine_move : Sx.Callee Tryz.prog f_cpu_machine_move := ⟨_, Tryz.func89, by kernel_rfl, by kernel_rfl⟩
noncomputable abbrev in_cpu_machine_move (ct : CT) : Ent := .st (inlS tt ct n_cpu_machine_move k_cpu_machine_move rs_cpu_machine_move 60 (Tryz.f89.body.getD .skip))
theorem in_cpu_machine_move_ok {ct : CT} (h : CTok Tryz.prog ct) : EntOk Tryz.prog f_cpu_machine_move (in_cpu_machine_move ct) := inl_ok tt_ok h 60 fn_cpu_machine_move rfl nt_cpu_machine_move rfl cal_cpu_machine_move (by kernel_rfl)
@[match_pattern] abbrev f_cpu_machine_gcall : Nat := 90
theorem fn_cpu_machine_gcall : Tryz.prog.funcs[f_cpu_machine_gcall]? = some Tryz.f90 := Tryz.func90
abbrev n_cpu_machine_gcall : Nat := 20
theorem nt_cpu_machine_gcall : Tryz.f90.ntmps = n_cpu_machine_gcall := Tryz.ntmps90
abbrev k_cpu_machine_gcall : List Nat := [0]
abbrev rs_cpu_machine_gcall : List ResultVar := []
theorem cal_cpu_machine_gcall : Sx.Callee Tryz.prog f_cpu_machine_gcall := ⟨_, Tryz.func90, by kernel_rfl, by kernel_rfl⟩
noncomputable abbrev in_cpu_machine_gcall (ct : CT) : Ent := .st (inlS tt ct n_cpu_machine_gcall k_cpu_machine_gcall rs_cpu_machine_gcall 60 (Tryz.f90.body.getD .skip))
theorem in_cpu_machine_gcall_ok {ct : CT} (h : CTok Tryz.prog ct) : EntOk Tryz.prog f_cpu_machine_gcall (in_cpu_machine_gcall ct) := inl_ok tt_ok h 60 fn_cpu_machine_gcall rfl nt_cpu_machine_gcall rfl cal_cpu_machine_gcall (by kernel_rfl)
@[match_pattern] abbrev f_cpu_machine_gajw : Nat := 91
theorem fn_cpu_machine_gajw : Tryz.prog.funcs[f_cpu_machine_gajw]? = some Tryz.f91 := Tryz.func91
abbrev n_cpu_machine_gajw : Nat := 21
theorem nt_cpu_machine_gajw : Tryz.f91.ntmps = n_cpu_machine_gajw := Tryz.ntmps91
abbrev k_cpu_machine_gajw : List Nat := [0]
abbrev rs_cpu_machine_gajw : List ResultVar := []
theorem cal_cpu_machine_gajw : Sx.Callee Tryz.prog f_cpu_machine_gajw := ⟨_, Tryz.func91, by kernel_rfl, by kernel_rfl⟩
noncomputable abbrev in_cpu_machine_gajw (ct : CT) : Ent := .st (inlS tt ct n_cpu_machine_gajw k_cpu_machine_gajw rs_cpu_machine_gajw 60 (Tryz.f91.body.getD .skip))
theorem in_cpu_machine_gajw_ok {ct : CT} (h : CTok Tryz.prog ct) : EntOk Tryz.prog f_cpu_machine_gajw (in_cpu_machine_gajw ct) := inl_ok tt_ok h 60 fn_cpu_machine_gajw rfl nt_cpu_machine_gajw rfl cal_cpu_machine_gajw (by kernel_rfl)
@[match_pattern] abbrev f_cpu_machine_ret : Nat := 92
theorem fn_cpu_machine_ret : Tryz.prog.funcs[f_cpu_machine_ret]? = some Tryz.f92 := Tryz.func92
abbrev n_cpu_machine_ret : Nat := 22
theorem nt_cpu_machine_ret : Tryz.f92.ntmps = n_cpu_machine_ret := Tryz.ntmps92
abbrev k_cpu_machine_ret : List Nat := [0]
abbrev rs_cpu_machine_ret : List ResultVar := []
theorem cal_cpu_machine_ret : Sx.Callee Tryz.prog f_cpu_machine_ret := ⟨_, Tryz.func92, by kernel_rfl, by kernel_rfl⟩
noncomputable abbrev in_cpu_machine_ret (ct : CT) : Ent := .st (inlS tt ct n_cpu_machine_ret k_cpu_machine_ret rs_cpu_machine_ret 60 (Tryz.f92.body.getD .skip))
theorem in_cpu_machine_ret_ok {ct : CT} (h : CTok Tryz.prog ct) : EntOk Tryz.prog f_cpu_machine_ret (in_cpu_machine_ret ct) := inl_ok tt_ok h 60 fn_cpu_machine_ret rfl nt_cpu_machine_ret rfl cal_cpu_machine_ret (by kernel_rfl)
@[match_pattern] abbrev f_cpu_machine_lend : Nat := 93
theorem fn_cpu_machine_lend : Tryz.prog.funcs[f_cpu_machine_lend]? = some Tryz.f93 := Tryz.func93
abbrev n_cpu_machine_lend : Nat := 49
theorem nt_cpu_machine_lend : Tryz.f93.ntmps = n_cpu_machine_lend := Tryz.ntmps93
abbrev k_cpu_machine_lend : List Nat := [0, 2, 3, 4, 22, 29]
abbrev rs_cpu_machine_lend : List ResultVar := []
theorem cal_cpu_machine_lend : Sx.Callee Tryz.prog f_cpu_machine_lend := ⟨_, Tryz.func93, by kernel_rfl, by kernel_rfl⟩
noncomputable abbrev in_cpu_machine_lend (ct : CT) : Ent := .st (inlS tt ct n_cpu_machine_lend k_cpu_machine_lend rs_cpu_machine_lend 60 (Tryz.f93.body.getD .skip))
theorem in_cpu_machine_lend_ok {ct : CT} (h : CTok Tryz.prog ct) : EntOk Tryz.prog f_cpu_machine_lend (in_cpu_machine_lend ct) := inl_ok tt_ok h 60 fn_cpu_machine_lend rfl nt_cpu_machine_lend rfl cal_cpu_machine_lend (by kernel_rfl)
@[match_pattern] abbrev f_cpu_machine_seterr : Nat := 94
theorem fn_cpu_machine_seterr : Tryz.prog.funcs[f_cpu_machine_seterr]? = some Tryz.f94 := Tryz.func94
abbrev n_cpu_machine_seterr : Nat := 6
theorem nt_cpu_machine_seterr : Tryz.f94.ntmps = n_cpu_machine_seterr := Tryz.ntmps94
abbrev k_cpu_machine_seterr : List Nat := [0]
abbrev rs_cpu_machine_seterr : List ResultVar := []
theorem cal_cpu_machine_seterr : Sx.Callee Tryz.prog f_cpu_machine_seterr := ⟨_, Tryz.func94, by kernel_rfl, by kernel_rfl⟩
noncomputable abbrev in_cpu_machine_seterr (ct : CT) : Ent := .st (inlS tt ct n_cpu_machine_seterr k_cpu_machine_seterr rs_cpu_machine_seterr 60 (Tryz.f94.body.getD .skip))
theorem in_cpu_machine_seterr_ok {ct : CT} (h : CTok Tryz.prog ct) : EntOk Tryz.prog f_cpu_machine_seterr (in_cpu_machine_seterr ct) := inl_ok tt_ok h 60 fn_cpu_machine_seterr rfl nt_cpu_machine_seterr rfl cal_cpu_machine_seterr (by kernel_rfl)
@[match_pattern] abbrev f_cpu_machine_testerr : Nat := 95
theorem fn_cpu_machine_testerr : Tryz.prog.funcs[f_cpu_machine_testerr]? = some Tryz.f95 := Tryz.func95
abbrev n_cpu_machine_testerr : Nat := 15
theorem nt_cpu_machine_testerr : Tryz.f95.ntmps = n_cpu_machine_testerr := Tryz.ntmps95
abbrev k_cpu_machine_testerr : List Nat := [0]
abbrev rs_cpu_machine_testerr : List ResultVar := []
theorem cal_cpu_machine_testerr : Sx.Callee Tryz.prog f_cpu_machine_testerr := ⟨_, Tryz.func95, by kernel_rfl, by kernel_rfl⟩
noncomputable abbrev in_cpu_machine_testerr (ct : CT) : Ent := .st (inlS tt ct n_cpu_machine_testerr k_cpu_machine_testerr rs_cpu_machine_testerr 60 (Tryz.f95.body.getD .skip))
theorem in_cpu_machine_testerr_ok {ct : CT} (h : CTok Tryz.prog ct) : EntOk Tryz.prog f_cpu_machine_testerr (in_cpu_machine_testerr ct) := inl_ok tt_ok h 60 fn_cpu_machine_testerr rfl nt_cpu_machine_testerr rfl cal_cpu_machine_testerr (by kernel_rfl)
@[match_pattern] abbrev f_cpu_machine_clrhalterr : Nat := 96
theorem fn_cpu_machine_clrhalterr : Tryz.prog.funcs[f_cpu_machine_clrhalterr]? = some Tryz.f96 := Tryz.func96
abbrev n_cpu_machine_clrhalterr : Nat := 6
theorem nt_cpu_machine_clrhalterr : Tryz.f96.ntmps = n_cpu_machine_clrhalterr := Tryz.ntmps96
abbrev k_cpu_machine_clrhalterr : List Nat := [0]
abbrev rs_cpu_machine_clrhalterr : List ResultVar := []
theorem cal_cpu_machine_clrhalterr : Sx.Callee Tryz.prog f_cpu_machine_clrhalterr := ⟨_, Tryz.func96, by kernel_rfl, by kernel_rfl⟩
noncomputable abbrev in_cpu_machine_clrhalterr (ct : CT) : Ent := .st (inlS tt ct n_cpu_machine_clrhalterr k_cpu_machine_clrhalterr rs_cpu_machine_clrhalterr 60 (Tryz.f96.body.getD .skip))
theorem in_cpu_machine_clrhalterr_ok {ct : CT} (h : CTok Tryz.prog ct) : EntOk Tryz.prog f_cpu_machine_clrhalterr (in_cpu_machine_clrhalterr ct) := inl_ok tt_ok h 60 fn_cpu_machine_clrhalterr rfl nt_cpu_machine_clrhalterr rfl cal_cpu_machine_clrhalterr (by kernel_rfl)
@[match_pattern] abbrev f_cpu_machine_sethalterr : Nat := 97
theorem fn_cpu_machine_sethalterr : Tryz.prog.funcs[f_cpu_machine_sethalterr]? = some Tryz.f97 := Tryz.func97
abbrev n_cpu_machine_sethalterr : Nat := 6
theorem nt_cpu_machine_sethalterr : Tryz.f97.ntmps = n_cpu_machine_sethalterr := Tryz.ntmps97
abbrev k_cpu_machine_sethalterr : List Nat := [0]
abbrev rs_cpu_machine_sethalterr : List ResultVar := []
theorem cal_cpu_machine_sethalterr : Sx.Callee Tryz.prog f_cpu_machine_sethalterr := ⟨_, Tryz.func97, by kernel_rfl, by kernel_rfl⟩
noncomputable abbrev in_cpu_machine_sethalterr (ct : CT) : Ent := .st (inlS tt ct n_cpu_machine_sethalterr k_cpu_machine_sethalterr rs_cpu_machine_sethalterr 60 (Tryz.f97.body.getD .skip))
theorem in_cpu_machine_sethalterr_ok {ct : CT} (h : CTok Tryz.prog ct) : EntOk Tryz.prog f_cpu_machine_sethalterr (in_cpu_machine_sethalterr ct) := inl_ok tt_ok h 60 fn_cpu_machine_sethalterr rfl nt_cpu_machine_sethalterr rfl cal_cpu_machine_sethalterr (by kernel_rfl)
@[match_pattern] abbrev f_cpu_machine_testhalterr : Nat := 98
theorem fn_cpu_machine_testhalterr : Tryz.prog.funcs[f_cpu_machine_testhalterr]? = some Tryz.f98 := Tryz.func98
abbrev n_cpu_machine_testhalterr : Nat := 10
theorem nt_cpu_machine_testhalterr : Tryz.f98.ntmps = n_cpu_machine_testhalterr := Tryz.ntmps98
abbrev k_cpu_machine_testhalterr : List Nat := [0]
abbrev rs_cpu_machine_testhalterr : List ResultVar := []
theorem cal_cpu_machine_testhalterr : Sx.Callee Tryz.prog f_cpu_machine_testhalterr := ⟨_, Tryz.func98, by kernel_rfl, by kernel_rfl⟩
noncomputable abbrev in_cpu_machine_testhalterr (ct : CT) : Ent := .st (inlS tt ct n_cpu_machine_testhalterr k_cpu_machine_testhalterr rs_cpu_machine_testhalterr 60 (Tryz.f98.body.getD .skip))
theorem in_cpu_machine_testhalterr_ok {ct : CT} (h : CTok Tryz.prog ct) : EntOk Tryz.prog f_cpu_machine_testhalterr (in_cpu_machine_testhalterr ct) := inl_ok tt_ok h 60 fn_cpu_machine_testhalterr rfl nt_cpu_machine_testhalterr rfl cal_cpu_machine_testhalterr (by kernel_rfl)
@[match_pattern] abbrev f_r01_Wrap : Nat := 99
theorem fn_r01_Wrap : Tryz.prog.funcs[f_r01_Wrap]? = some Tryz.f99 := Tryz.func99
abbrev n_r01_Wrap : Nat := 15
theorem nt_r01_Wrap : Tryz.f99.ntmps = n_r01_Wrap := Tryz.ntmps99
abbrev k_r01_Wrap : List Nat := [0, 2, 6, 10]
abbrev rs_r01_Wrap : List ResultVar := [.tmp 2]
theorem cal_r01_Wrap : Sx.Callee Tryz.prog f_r01_Wrap := ⟨_, Tryz.func99, by kernel_rfl, by kernel_rfl⟩
noncomputable abbrev in_r01_Wrap (ct : CT) : Ent := .st (inlS tt ct n_r01_Wrap k_r01_Wrap rs_r01_Wrap 60 (Tryz.f99.body.getD .skip))
theorem in_r01_Wrap_ok {ct : CT} (h : CTok Tryz.prog ct) : EntOk Tryz.prog f_r01_Wrap (in_r01_Wrap ct) := inl_ok tt_ok h 60 fn_r01_Wrap rfl nt_r01_Wrap rfl cal_r01_Wrap (by kernel_rfl)
@[match_pattern] abbrev f_r28_push : Nat := 100
theorem fn_r28_push : Tryz.prog.funcs[f_r28_push]? = some Tryz.f100 := Tryz.func100
abbrev n_r28_push : Nat := 14
theorem nt_r28_push : Tryz.f100.ntmps = n_r28_push := Tryz.ntmps100
abbrev k_r28_push : List Nat := [0, 1, 2, 4]
abbrev rs_r28_push : List ResultVar := [.cell 4 26]
theorem cal_r28_push : Sx.Callee Tryz.prog f_r28_push := ⟨_, Tryz.func100, by kernel_rfl, by kernel_rfl⟩
noncomputable abbrev in_r28_push (ct : CT) : Ent := .st (inlS tt ct n_r28_push k_r28_push rs_r28_push 60 (Tryz.f100.body.getD .skip))
theorem in_r28_push_ok {ct : CT} (h : CTok Tryz.prog ct) : EntOk Tryz.prog f_r28_push (in_r28_push ct) := inl_ok tt_ok h 60 fn_r28_push rfl nt_r28_push rfl cal_r28_push (by kernel_rfl)
@[match_pattern] abbrev f_r28_word : Nat := 101
theorem fn_r28_word : Tryz.prog.funcs[f_r28_word]? = some Tryz.f101 := Tryz.func101
abbrev n_r28_word : Nat := 12
theorem nt_r28_word : Tryz.f101.ntmps = n_r28_word := Tryz.ntmps101
abbrev k_r28_word : List Nat := [0, 1, 4]
abbrev rs_r28_word : List ResultVar := [.tmp 4]
theorem cal_r28_word : Sx.Callee Tryz.prog f_r28_word := ⟨_, Tryz.func101, by kernel_rfl, by kernel_rfl⟩
noncomputable abbrev in_r28_word (ct : CT) : Ent := .st (inlS tt ct n_r28_word k_r28_word rs_r28_word 60 (Tryz.f101.body.getD .skip))
theorem in_r28_word_ok {ct : CT} (h : CTok Tryz.prog ct) : EntOk Tryz.prog f_r28_word (in_r28_word ct) := inl_ok tt_ok h 60 fn_r28_word rfl nt_r28_word rfl cal_r28_word (by kernel_rfl)
@[match_pattern] abbrev f_r03_Word : Nat := 102
theorem fn_r03_Word : Tryz.prog.funcs[f_r03_Word]? = some Tryz.f102 := Tryz.func102
abbrev n_r03_Word : Nat := 50
theorem nt_r03_Word : Tryz.f102.ntmps = n_r03_Word := Tryz.ntmps102
abbrev k_r03_Word : List Nat := [0, 1, 4, 5, 6, 7, 12]
abbrev rs_r03_Word : List ResultVar := [.tmp 4, .tmp 5]
theorem cal_r03_Word : Sx.Callee Tryz.prog f_r03_Word := ⟨_, Tryz.func102, by kernel_rfl, by kernel_rfl⟩
noncomputable abbrev in_r03_Word (ct : CT) : Ent := .st (inlS tt ct n_r03_Word k_r03_Word rs_r03_Word 60 (Tryz.f102.body.getD .skip))
theorem in_r03_Word_ok {ct : CT} (h : CTok Tryz.prog ct) : EntOk Tryz.prog f_r03_Word (in_r03_Word ct) := inl_ok tt_ok h 60 fn_r03_Word rfl nt_r03_Word rfl cal_r03_Word (by kernel_rfl)
@[match_pattern] abbrev f_r01_Add : Nat := 103
theorem fn_r01_Add : Tryz.prog.funcs[f_r01_Add]? = some Tryz.f103 := Tryz.func103
abbrev n_r01_Add : Nat := 17
theorem nt_r01_Add : Tryz.f103.ntmps = n_r01_Add := Tryz.ntmps103
abbrev k_r01_Add : List Nat := [0, 1, 4, 5, 6]
abbrev rs_r01_Add : List ResultVar := [.tmp 4, .tmp 5]
theorem cal_r01_Add : Sx.Callee Tryz.prog f_r01_Add := ⟨_, Tryz.func103, by kernel_rfl, by kernel_rfl⟩
noncomputable abbrev in_r01_Add (ct : CT) : Ent := .st (inlS tt ct n_r01_Add k_r01_Add rs_r01_Add 60 (Tryz.f103.body.getD .skip))
theorem in_r01_Add_ok {ct : CT} (h : CTok Tryz.prog ct) : EntOk Tryz.prog f_r01_Add (in_r01_Add ct) := inl_ok tt_ok h 60 fn_r01_Add rfl nt_r01_Add rfl cal_r01_Add (by kernel_rfl)
@[match_pattern] abbrev f_r28_call : Nat := 104
theorem fn_r28_call : Tryz.prog.funcs[f_r28_call]? = some Tryz.f104 := Tryz.func104
abbrev n_r28_call : Nat := 65
theorem nt_r28_call : Tryz.f104.ntmps = n_r28_call := Tryz.ntmps104
abbrev k_r28_call : List Nat := [0, 1, 2, 3, 6, 7, 8, 9, 10, 11, 12, 13, 25, 44]
abbrev rs_r28_call : List ResultVar := [.cell 6 26, .tmp 7, .tmp 8]
theorem cal_r28_call : Sx.Callee Tryz.prog f_r28_call := ⟨_, Tryz.func104, by kernel_rfl, by kernel_rfl⟩
noncomputable abbrev in_r28_call (ct : CT) : Ent := .st (inlS tt ct n_r28_call k_r28_call rs_r28_call 60 (Tryz.f104.body.getD .skip))
theorem in_r28_call_ok {ct : CT} (h : CTok Tryz.prog ct) : EntOk Tryz.prog f_r28_call (in_r28_call ct) := inl_ok tt_ok h 60 fn_r28_call rfl nt_r28_call rfl cal_r28_call (by kernel_rfl)
@[match_pattern] abbrev f_r28_pop : Nat := 105
theorem fn_r28_pop : Tryz.prog.funcs[f_r28_pop]? = some Tryz.f105 := Tryz.func105
abbrev n_r28_pop : Nat := 10
theorem nt_r28_pop : Tryz.f105.ntmps = n_r28_pop := Tryz.ntmps105
abbrev k_r28_pop : List Nat := [0, 1, 2]
abbrev rs_r28_pop : List ResultVar := [.cell 2 26]
theorem cal_r28_pop : Sx.Callee Tryz.prog f_r28_pop := ⟨_, Tryz.func105, by kernel_rfl, by kernel_rfl⟩
noncomputable abbrev in_r28_pop (ct : CT) : Ent := .st (inlS tt ct n_r28_pop k_r28_pop rs_r28_pop 60 (Tryz.f105.body.getD .skip))
theorem in_r28_pop_ok {ct : CT} (h : CTok Tryz.prog ct) : EntOk Tryz.prog f_r28_pop (in_r28_pop ct) := inl_ok tt_ok h 60 fn_r28_pop rfl nt_r28_pop rfl cal_r28_pop (by kernel_rfl)
@[match_pattern] abbrev f_r28_truth : Nat := 106
theorem fn_r28_truth : Tryz.prog.funcs[f_r28_truth]? = some Tryz.f106 := Tryz.func106
abbrev n_r28_truth : Nat := 4
theorem nt_r28_truth : Tryz.f106.ntmps = n_r28_truth := Tryz.ntmps106
abbrev k_r28_truth : List Nat := [0, 2, 3]
abbrev rs_r28_truth : List ResultVar := [.tmp 2]
theorem cal_r28_truth : Sx.Callee Tryz.prog f_r28_truth := ⟨_, Tryz.func106, by kernel_rfl, by kernel_rfl⟩
noncomputable abbrev in_r28_truth (ct : CT) : Ent := .st (inlS tt ct n_r28_truth k_r28_truth rs_r28_truth 60 (Tryz.f106.body.getD .skip))
theorem in_r28_truth_ok {ct : CT} (h : CTok Tryz.prog ct) : EntOk Tryz.prog f_r28_truth (in_r28_truth ct) := inl_ok tt_ok h 60 fn_r28_truth rfl nt_r28_truth rfl cal_r28_truth (by kernel_rfl)
@[match_pattern] abbrev f_r03_SetWord : Nat := 107
theorem fn_r03_SetWord : Tryz.prog.funcs[f_r03_SetWord]? = some Tryz.f107 := Tryz.func107
abbrev n_r03_SetWord : Nat := 25
theorem nt_r03_SetWord : Tryz.f107.ntmps = n_r03_SetWord := Tryz.ntmps107
abbrev k_r03_SetWord : List Nat := [0, 1, 2, 6, 7, 8, 13]
abbrev rs_r03_SetWord : List ResultVar := [.tmp 6, .tmp 7]
theorem cal_r03_SetWord : Sx.Callee Tryz.prog f_r03_SetWord := ⟨_, Tryz.func107, by kernel_rfl, by kernel_rfl⟩
noncomputable abbrev in_r03_SetWord (ct : CT) : Ent := .st (inlS tt ct n_r03_SetWord k_r03_SetWord rs_r03_SetWord 60 (Tryz.f107.body.getD .skip))
theorem in_r03_SetWord_ok {ct : CT} (h : CTok Tryz.prog ct) : EntOk Tryz.prog f_r03_SetWord (in_r03_SetWord ct) := inl_ok tt_ok h 60 fn_r03_SetWord rfl nt_r03_SetWord rfl cal_r03_SetWord (by kernel_rfl)
@[match_pattern] abbrev f_r01_Sub : Nat := 108
theorem fn_r01_Sub : Tryz.prog.funcs[f_r01_Sub]? = some Tryz.f108 := Tryz.func108
abbrev n_r01_Sub : Nat := 17
theorem nt_r01_Sub : Tryz.f108.ntmps = n_r01_Sub := Tryz.ntmps108
abbrev k_r01_Sub : List Nat := [0, 1, 4, 5, 6]
abbrev rs_r01_Sub : List ResultVar := [.tmp 4, .tmp 5]
theorem cal_r01_Sub : Sx.Callee Tryz.prog f_r01_Sub := ⟨_, Tryz.func108, by kernel_rfl, by kernel_rfl⟩
noncomputable abbrev in_r01_Sub (ct : CT) : Ent := .st (inlS tt ct n_r01_Sub k_r01_Sub rs_r01_Sub 60 (Tryz.f108.body.getD .skip))
theorem in_r01_Sub_ok {ct : CT} (h : CTok Tryz.prog ct) : EntOk Tryz.prog f_r01_Sub (in_r01_Sub ct) := inl_ok tt_ok h 60 fn_r01_Sub rfl nt_r01_Sub rfl cal_r01_Sub (by kernel_rfl)
@[match_pattern] abbrev f_r01_Mul : Nat := 109
theorem fn_r01_Mul : Tryz.prog.funcs[f_r01_Mul]? = some Tryz.f109 := Tryz.func109
abbrev n_r01_Mul : Nat := 17
theorem nt_r01_Mul : Tryz.f109.ntmps = n_r01_Mul := Tryz.ntmps109
abbrev k_r01_Mul : List Nat := [0, 1, 4, 5, 6]
abbrev rs_r01_Mul : List ResultVar := [.tmp 4, .tmp 5]
theorem cal_r01_Mul : Sx.Callee Tryz.prog f_r01_Mul := ⟨_, Tryz.func109, by kernel_rfl, by kernel_rfl⟩
noncomputable abbrev in_r01_Mul (ct : CT) : Ent := .st (inlS tt ct n_r01_Mul k_r01_Mul rs_r01_Mul 60 (Tryz.f109.body.getD .skip))
theorem in_r01_Mul_ok {ct : CT} (h : CTok Tryz.prog ct) : EntOk Tryz.prog f_r01_Mul (in_r01_Mul ct) := inl_ok tt_ok h 60 fn_r01_Mul rfl nt_r01_Mul rfl cal_r01_Mul (by kernel_rfl)
@[match_pattern] abbrev f_r01_Div : Nat := 110
theorem fn_r01_Div : Tryz.prog.funcs[f_r01_Div]? = some Tryz.f110 := Tryz.func110
abbrev n_r01_Div : Nat := 26
theorem nt_r01_Div : Tryz.f110.ntmps = n_r01_Div := Tryz.ntmps110
abbrev k_r01_Div : List Nat := [0, 1, 4, 5, 6, 8, 18, 23]
abbrev rs_r01_Div : List ResultVar := [.tmp 4, .tmp 5]
theorem cal_r01_Div : Sx.Callee Tryz.prog f_r01_Div := ⟨_, Tryz.func110, by kernel_rfl, by kernel_rfl⟩
noncomputable abbrev in_r01_Div (ct : CT) : Ent := .st (inlS tt ct n_r01_Div k_r01_Div rs_r01_Div 60 (Tryz.f110.body.getD .skip))
theorem in_r01_Div_ok {ct : CT} (h : CTok Tryz.prog ct) : EntOk Tryz.prog f_r01_Div (in_r01_Div ct) := inl_ok tt_ok h 60 fn_r01_Div rfl nt_r01_Div rfl cal_r01_Div (by kernel_rfl)
@[match_pattern] abbrev f_r01_Rem : Nat := 111
theorem fn_r01_Rem : Tryz.prog.funcs[f_r01_Rem]? = some Tryz.f111 := Tryz.func111
abbrev n_r01_Rem : Nat := 20
theorem nt_r01_Rem : Tryz.f111.ntmps = n_r01_Rem := Tryz.ntmps111
abbrev k_r01_Rem : List Nat := [0, 1, 4, 5, 6, 8, 15]
abbrev rs_r01_Rem : List ResultVar := [.tmp 4, .tmp 5]
theorem cal_r01_Rem : Sx.Callee Tryz.prog f_r01_Rem := ⟨_, Tryz.func111, by kernel_rfl, by kernel_rfl⟩
noncomputable abbrev in_r01_Rem (ct : CT) : Ent := .st (inlS tt ct n_r01_Rem k_r01_Rem rs_r01_Rem 60 (Tryz.f111.body.getD .skip))
theorem in_r01_Rem_ok {ct : CT} (h : CTok Tryz.prog ct) : EntOk Tryz.prog f_r01_Rem (in_r01_Rem ct) := inl_ok tt_ok h 60 fn_r01_Rem rfl nt_r01_Rem rfl cal_r01_Rem (by kernel_rfl)
@[match_pattern] abbrev f_r01_Shl : Nat := 112
theorem fn_r01_Shl : Tryz.prog.funcs[f_r01_Shl]? = some Tryz.f112 := Tryz.func112
abbrev n_r01_Shl : Nat := 23
theorem nt_r01_Shl : Tryz.f112.ntmps = n_r01_Shl := Tryz.ntmps112
abbrev k_r01_Shl : List Nat := [0, 1, 4, 5, 6, 15]
abbrev rs_r01_Shl : List ResultVar := [.tmp 4]
theorem cal_r01_Shl : Sx.Callee Tryz.prog f_r01_Shl := ⟨_, Tryz.func112, by kernel_rfl, by kernel_rfl⟩
noncomputable abbrev in_r01_Shl (ct : CT) : Ent := .st (inlS tt ct n_r01_Shl k_r01_Shl rs_r01_Shl 60 (Tryz.f112.body.getD .skip))
theorem in_r01_Shl_ok {ct : CT} (h : CTok Tryz.prog ct) : EntOk Tryz.prog f_r01_Shl (in_r01_Shl ct) := inl_ok tt_ok h 60 fn_r01_Shl rfl nt_r01_Shl rfl cal_r01_Shl (by kernel_rfl)
@[match_pattern] abbrev f_r01_Shr : Nat := 113
theorem fn_r01_Shr : Tryz.prog.funcs[f_r01_Shr]? = some Tryz.f113 := Tryz.func113
abbrev n_r01_Shr : Nat := 23
theorem nt_r01_Shr : Tryz.f113.ntmps = n_r01_Shr := Tryz.ntmps113
abbrev k_r01_Shr : List Nat := [0, 1, 4, 5, 6, 16]
abbrev rs_r01_Shr : List ResultVar := [.tmp 4]
theorem cal_r01_Shr : Sx.Callee Tryz.prog f_r01_Shr := ⟨_, Tryz.func113, by kernel_rfl, by kernel_rfl⟩
noncomputable abbrev in_r01_Shr (ct : CT) : Ent := .st (inlS tt ct n_r01_Shr k_r01_Shr rs_r01_Shr 60 (Tryz.f113.body.getD .skip))
theorem in_r01_Shr_ok {ct : CT} (h : CTok Tryz.prog ct) : EntOk Tryz.prog f_r01_Shr (in_r01_Shr ct) := inl_ok tt_ok h 60 fn_r01_Shr rfl nt_r01_Shr rfl cal_r01_Shr (by kernel_rfl)
@[match_pattern] abbrev f_r01_Xword : Nat := 114
theorem fn_r01_Xword : Tryz.prog.funcs[f_r01_Xword]? = some Tryz.f114 := Tryz.func114
abbrev n_r01_Xword : Nat := 18
theorem nt_r01_Xword : Tryz.f114.ntmps = n_r01_Xword := Tryz.ntmps114
abbrev k_r01_Xword : List Nat := [0, 1, 4, 9]
abbrev rs_r01_Xword : List ResultVar := [.tmp 4]
theorem cal_r01_Xword : Sx.Callee Tryz.prog f_r01_Xword := ⟨_, Tryz.func114, by kernel_rfl, by kernel_rfl⟩
noncomputable abbrev in_r01_Xword (ct : CT) : Ent := .st (inlS tt ct n_r01_Xword k_r01_Xword rs_r01_Xword 60 (Tryz.f114.body.getD .skip))
theorem in_r01_Xword_ok {ct : CT} (h : CTok Tryz.prog ct) : EntOk Tryz.prog f_r01_Xword (in_r01_Xword ct) := inl_ok tt_ok h 60 fn_r01_Xword rfl nt_r01_Xword rfl cal_r01_Xword (by kernel_rfl)
@[match_pattern] abbrev f_r01_Cword : Nat := 115
theorem fn_r01_Cword : Tryz.prog.funcs[f_r01_Cword]? = some Tryz.f115 := Tryz.func115
abbrev n_r01_Cword : Nat := 18
theorem nt_r01_Cword : Tryz.f115.ntmps = n_r01_Cword := Tryz.ntmps115
abbrev k_r01_Cword : List Nat := [0, 1, 4, 5]
abbrev rs_r01_Cword : List ResultVar := [.tmp 4, .tmp 5]
theorem cal_r01_Cword : Sx.Callee Tryz.prog f_r01_Cword := ⟨_, Tryz.func115, by kernel_rfl, by kernel_rfl⟩
noncomputable abbrev in_r01_Cword (ct : CT) : Ent := .st (inlS tt ct n_r01_Cword k_r01_Cword rs_r01_Cword 60 (Tryz.f115.body.getD .skip))
theorem in_r01_Cword_ok {ct : CT} (h : CTok Tryz.prog ct) : EntOk Tryz.prog f_r01_Cword (in_r01_Cword ct) := inl_ok tt_ok h 60 fn_r01_Cword rfl nt_r01_Cword rfl cal_r01_Cword (by kernel_rfl)
@[match_pattern] abbrev f_r01_Csub0 : Nat := 116
theorem fn_r01_Csub0 : Tryz.prog.funcs[f_r01_Csub0]? = some Tryz.f116 := Tryz.func116
abbrev n_r01_Csub0 : Nat := 12
theorem nt_r01_Csub0 : Tryz.f116.ntmps = n_r01_Csub0 := Tryz.ntmps116
abbrev k_r01_Csub0 : List Nat := [0, 1, 4, 5]
abbrev rs_r01_Csub0 : List ResultVar := [.tmp 4, .tmp 5]
theorem cal_r01_Csub0 : Sx.Callee Tryz.prog f_r01_Csub0 := ⟨_, Tryz.func116, by kernel_rfl, by kernel_rfl⟩
noncomputable abbrev in_r01_Csub0 (ct : CT) : Ent := .st (inlS tt ct n_r01_Csub0 k_r01_Csub0 rs_r01_Csub0 60 (Tryz.f116.body.getD .skip))
theorem in_r01_Csub0_ok {ct : CT} (h : CTok Tryz.prog ct) : EntOk Tryz.prog f_r01_Csub0 (in_r01_Csub0 ct) := inl_ok tt_ok h 60 fn_r01_Csub0 rfl nt_r01_Csub0 rfl cal_r01_Csub0 (by kernel_rfl)
@[match_pattern] abbrev f_r01_Ccnt1 : Nat := 117
theorem fn_r01_Ccnt1 : Tryz.prog.funcs[f_r01_Ccnt1]? = some Tryz.f117 := Tryz.func117
abbrev n_r01_Ccnt1 : Nat := 16
theorem nt_r01_Ccnt1 : Tryz.f117.ntmps = n_r01_Ccnt1 := Tryz.ntmps117
abbrev k_r01_Ccnt1 : List Nat := [0, 1, 4, 5]
abbrev rs_r01_Ccnt1 : List ResultVar := [.tmp 4, .tmp 5]
theorem cal_r01_Ccnt1 : Sx.Callee Tryz.prog f_r01_Ccnt1 := ⟨_, Tryz.func117, by kernel_rfl, by kernel_rfl⟩
noncomputable abbrev in_r01_Ccnt1 (ct : CT) : Ent := .st (inlS tt ct n_r01_Ccnt1 k_r01_Ccnt1 rs_r01_Ccnt1 60 (Tryz.f117.body.getD .skip))
theorem in_r01_Ccnt1_ok {ct : CT} (h : CTok Tryz.prog ct) : EntOk Tryz.prog f_r01_Ccnt1 (in_r01_Ccnt1 ct) := inl_ok tt_ok h 60 fn_r01_Ccnt1 rfl nt_r01_Ccnt1 rfl cal_r01_Ccnt1 (by kernel_rfl)
@[match_pattern] abbrev f_r02_Add : Nat := 118
theorem fn_r02_Add : Tryz.prog.funcs[f_r02_Add]? = some Tryz.f118 := Tryz.func118
abbrev n_r02_Add : Nat := 21
theorem nt_r02_Add : Tryz.f118.ntmps = n_r02_Add := Tryz.ntmps118
abbrev k_r02_Add : List Nat := [0, 1, 2, 6, 7]
abbrev rs_r02_Add : List ResultVar := [.tmp 6, .tmp 7]
theorem cal_r02_Add : Sx.Callee Tryz.prog f_r02_Add := ⟨_, Tryz.func118, by kernel_rfl, by kernel_rfl⟩
noncomputable abbrev in_r02_Add (ct : CT) : Ent := .st (inlS tt ct n_r02_Add k_r02_Add rs_r02_Add 60 (Tryz.f118.body.getD .skip))
theorem in_r02_Add_ok {ct : CT} (h : CTok Tryz.prog ct) : EntOk Tryz.prog f_r02_Add (in_r02_Add ct) := inl_ok tt_ok h 60 fn_r02_Add rfl nt_r02_Add rfl cal_r02_Add (by kernel_rfl)
@[match_pattern] abbrev f_r02_Sub : Nat := 119
theorem fn_r02_Sub : Tryz.prog.funcs[f_r02_Sub]? = some Tryz.f119 := Tryz.func119
abbrev n_r02_Sub : Nat := 21
theorem nt_r02_Sub : Tryz.f119.ntmps = n_r02_Sub := Tryz.ntmps119
abbrev k_r02_Sub : List Nat := [0, 1, 2, 6, 7]
abbrev rs_r02_Sub : List ResultVar := [.tmp 6, .tmp 7]
theorem cal_r02_Sub : Sx.Callee Tryz.prog f_r02_Sub := ⟨_, Tryz.func119, by kernel_rfl, by kernel_rfl⟩
noncomputable abbrev in_r02_Sub (ct : CT) : Ent := .st (inlS tt ct n_r02_Sub k_r02_Sub rs_r02_Sub 60 (Tryz.f119.body.getD .skip))
theorem in_r02_Sub_ok {ct : CT} (h : CTok Tryz.prog ct) : EntOk Tryz.prog f_r02_Sub (in_r02_Sub ct) := inl_ok tt_ok h 60 fn_r02_Sub rfl nt_r02_Sub rfl cal_r02_Sub (by kernel_rfl)
@[match_pattern] abbrev f_r02_Sum : Nat := 120
theorem fn_r02_Sum : Tryz.prog.funcs[f_r02_Sum]? = some Tryz.f120 := Tryz.func120
abbrev n_r02_Sum : Nat := 26
theorem nt_r02_Sum : Tryz.f120.ntmps = n_r02_Sum := Tryz.ntmps120
abbrev k_r02_Sum : List Nat := [0, 1, 2, 6, 7, 8, 9]
abbrev rs_r02_Sum : List ResultVar := [.tmp 6, .tmp 7]
theorem cal_r02_Sum : Sx.Callee Tryz.prog f_r02_Sum := ⟨_, Tryz.func120, by kernel_rfl, by kernel_rfl⟩
noncomputable abbrev in_r02_Sum (ct : CT) : Ent := .st (inlS tt ct n_r02_Sum k_r02_Sum rs_r02_Sum 60 (Tryz.f120.body.getD .skip))
theorem in_r02_Sum_ok {ct : CT} (h : CTok Tryz.prog ct) : EntOk Tryz.prog f_r02_Sum (in_r02_Sum ct) := inl_ok tt_ok h 60 fn_r02_Sum rfl nt_r02_Sum rfl cal_r02_Sum (by kernel_rfl)
@[match_pattern] abbrev f_r02_Diff : Nat := 121
theorem fn_r02_Diff : Tryz.prog.funcs[f_r02_Diff]? = some Tryz.f121 := Tryz.func121
abbrev n_r02_Diff : Nat := 49
theorem nt_r02_Diff : Tryz.f121.ntmps = n_r02_Diff := Tryz.ntmps121
abbrev k_r02_Diff : List Nat := [0, 1, 2, 6, 7, 8, 9, 10, 11, 12, 13, 23, 38]
abbrev rs_r02_Diff : List ResultVar := [.tmp 6, .tmp 7]
theorem cal_r02_Diff : Sx.Callee Tryz.prog f_r02_Diff := ⟨_, Tryz.func121, by kernel_rfl, by kernel_rfl⟩
noncomputable abbrev in_r02_Diff (ct : CT) : Ent := .st (inlS tt ct n_r02_Diff k_r02_Diff rs_r02_Diff 60 (Tryz.f121.body.getD .skip))
theorem in_r02_Diff_ok {ct : CT} (h : CTok Tryz.prog ct) : EntOk Tryz.prog f_r02_Diff (in_r02_Diff ct) := inl_ok tt_ok h 60 fn_r02_Diff rfl nt_r02_Diff rfl cal_r02_Diff (by kernel_rfl)
@[match_pattern] abbrev f_r02_Mul : Nat := 122
theorem fn_r02_Mul : Tryz.prog.funcs[f_r02_Mul]? = some Tryz.f122 := Tryz.func122
abbrev n_r02_Mul : Nat := 39
theorem nt_r02_Mul : Tryz.f122.ntmps = n_r02_Mul := Tryz.ntmps122
abbrev k_r02_Mul : List Nat := [0, 1, 2, 6, 7, 8, 9, 10, 16, 23]
abbrev rs_r02_Mul : List ResultVar := [.tmp 6, .tmp 7]
theorem cal_r02_Mul : Sx.Callee Tryz.prog f_r02_Mul := ⟨_, Tryz.func122, by kernel_rfl, by kernel_rfl⟩
noncomputable abbrev in_r02_Mul (ct : CT) : Ent := .st (inlS tt ct n_r02_Mul k_r02_Mul rs_r02_Mul 60 (Tryz.f122.body.getD .skip))
theorem in_r02_Mul_ok {ct : CT} (h : CTok Tryz.prog ct) : EntOk Tryz.prog f_r02_Mul (in_r02_Mul ct) := inl_ok tt_ok h 60 fn_r02_Mul rfl nt_r02_Mul rfl cal_r02_Mul (by kernel_rfl)
@[match_pattern] abbrev f_r02_Div : Nat := 123
theorem fn_r02_Div : Tryz.prog.funcs[f_r02_Div]? = some Tryz.f123 := Tryz.func123
abbrev n_r02_Div : Nat := 49
theorem nt_r02_Div : Tryz.f123.ntmps = n_r02_Div := Tryz.ntmps123
abbrev k_r02_Div : List Nat := [0, 1, 2, 6, 7, 8, 9, 10, 11, 12, 17, 23, 36]
abbrev rs_r02_Div : List ResultVar := [.tmp 6, .tmp 7, .tmp 8]
theorem cal_r02_Div : Sx.Callee Tryz.prog f_r02_Div := ⟨_, Tryz.func123, by kernel_rfl, by kernel_rfl⟩
noncomputable abbrev in_r02_Div (ct : CT) : Ent := .st (inlS tt ct n_r02_Div k_r02_Div rs_r02_Div 60 (Tryz.f123.body.getD .skip))
theorem in_r02_Div_ok {ct : CT} (h : CTok Tryz.prog ct) : EntOk Tryz.prog f_r02_Div (in_r02_Div ct) := inl_ok tt_ok h 60 fn_r02_Div rfl nt_r02_Div rfl cal_r02_Div (by kernel_rfl)
@[match_pattern] abbrev f_r02_Shl : Nat := 124
theorem fn_r02_Shl : Tryz.prog.funcs[f_r02_Shl]? = some Tryz.f124 := Tryz.func124
abbrev n_r02_Shl : Nat := 24
theorem nt_r02_Shl : Tryz.f124.ntmps = n_r02_Shl := Tryz.ntmps124
abbrev k_r02_Shl : List Nat := [0, 1, 2, 6, 7, 8, 11]
abbrev rs_r02_Shl : List ResultVar := [.tmp 6, .tmp 7]
theorem cal_r02_Shl : Sx.Callee Tryz.prog f_r02_Shl := ⟨_, Tryz.func124, by kernel_rfl, by kernel_rfl⟩
noncomputable abbrev in_r02_Shl (ct : CT) : Ent := .st (inlS tt ct n_r02_Shl k_r02_Shl rs_r02_Shl 60 (Tryz.f124.body.getD .skip))
theorem in_r02_Shl_ok {ct : CT} (h : CTok Tryz.prog ct) : EntOk Tryz.prog f_r02_Shl (in_r02_Shl ct) := inl_ok tt_ok h 60 fn_r02_Shl rfl nt_r02_Shl rfl cal_r02_Shl (by kernel_rfl)
@[match_pattern] abbrev f_r02_Shr : Nat := 125
theorem fn_r02_Shr : Tryz.prog.funcs[f_r02_Shr]? = some Tryz.f125 := Tryz.func125
abbrev n_r02_Shr : Nat := 24
theorem nt_r02_Shr : Tryz.f125.ntmps = n_r02_Shr := Tryz.ntmps125
abbrev k_r02_Shr : List Nat := [0, 1, 2, 6, 7, 8, 11]
abbrev rs_r02_Shr : List ResultVar := [.tmp 6, .tmp 7]
theorem cal_r02_Shr : Sx.Callee Tryz.prog f_r02_Shr := ⟨_, Tryz.func125, by kernel_rfl, by kernel_rfl⟩
noncomputable abbrev in_r02_Shr (ct : CT) : Ent := .st (inlS tt ct n_r02_Shr k_r02_Shr rs_r02_Shr 60 (Tryz.f125.body.getD .skip))
theorem in_r02_Shr_ok {ct : CT} (h : CTok Tryz.prog ct) : EntOk Tryz.prog f_r02_Shr (in_r02_Shr ct) := inl_ok tt_ok h 60 fn_r02_Shr rfl nt_r02_Shr rfl cal_r02_Shr (by kernel_rfl)
@[match_pattern] abbrev f_r02_Norm : Nat := 126
theorem fn_r02_Norm : Tryz.prog.funcs[f_r02_Norm]? = some Tryz.f126 := Tryz.func126
abbrev n_r02_Norm : Nat := 25
theorem nt_r02_Norm : Tryz.f126.ntmps = n_r02_Norm := Tryz.ntmps126
abbrev k_r02_Norm : List Nat := [0, 1, 4, 5, 6, 7, 13]
abbrev rs_r02_Norm : List ResultVar := [.tmp 4, .tmp 5, .tmp 6]
theorem cal_r02_Norm : Sx.Callee Tryz.prog f_r02_Norm := ⟨_, Tryz.func126, by kernel_rfl, by kernel_rfl⟩
noncomputable abbrev in_r02_Norm (ct : CT) : Ent := .st (inlS tt ct n_r02_Norm k_r02_Norm rs_r02_Norm 60 (Tryz.f126.body.getD .skip))
theorem in_r02_Norm_ok {ct : CT} (h : CTok Tryz.prog ct) : EntOk Tryz.prog f_r02_Norm (in_r02_Norm ct) := inl_ok tt_ok h 60 fn_r02_Norm rfl nt_r02_Norm rfl cal_r02_Norm (by kernel_rfl)
@[match_pattern] abbrev f_r02_Xdble : Nat := 127
theorem fn_r02_Xdble : Tryz.prog.funcs[f_r02_Xdble]? = some Tryz.f127 := Tryz.func127
abbrev n_r02_Xdble : Nat := 8
theorem nt_r02_Xdble : Tryz.f127.ntmps = n_r02_Xdble := Tryz.ntmps127
abbrev k_r02_Xdble : List Nat := [0, 2, 3, 5]
abbrev rs_r02_Xdble : List ResultVar := [.tmp 2, .tmp 3]
theorem cal_r02_Xdble : Sx.Callee Tryz.prog f_r02_Xdble := ⟨_, Tryz.func127, by kernel_rfl, by kernel_rfl⟩
noncomputable abbrev in_r02_Xdble (ct : CT) : Ent := .st (inlS tt ct n_r02_Xdble k_r02_Xdble rs_r02_Xdble 60 (Tryz.f127.body.getD .skip))
theorem in_r02_Xdble_ok {ct : CT} (h : CTok Tryz.prog ct) : EntOk Tryz.prog f_r02_Xdble (in_r02_Xdble ct) := inl_ok tt_ok h 60 fn_r02_Xdble rfl nt_r02_Xdble rfl cal_r02_Xdble (by kernel_rfl)
@[match_pattern] abbrev f_r02_Csngl : Nat := 128
theorem fn_r02_Csngl : Tryz.prog.funcs[f_r02_Csngl]? = some Tryz.f128 := Tryz.func128
abbrev n_r02_Csngl : Nat := 17
theorem nt_r02_Csngl : Tryz.f128.ntmps = n_r02_Csngl := Tryz.ntmps128
abbrev k_r02_Csngl : List Nat := [0, 1, 4, 5, 7]
abbrev rs_r02_Csngl : List ResultVar := [.tmp 4, .tmp 5]
theorem cal_r02_Csngl : Sx.Callee Tryz.prog f_r02_Csngl := ⟨_, Tryz.func128, by kernel_rfl, by kernel_rfl⟩
noncomputable abbrev in_r02_Csngl (ct : CT) : Ent := .st (inlS tt ct n_r02_Csngl k_r02_Csngl rs_r02_Csngl 60 (Tryz.f128.body.getD .skip))
theorem in_r02_Csngl_ok {ct : CT} (h : CTok Tryz.prog ct) : EntOk Tryz.prog f_r02_Csngl (in_r02_Csngl ct) := inl_ok tt_ok h 60 fn_r02_Csngl rfl nt_r02_Csngl rfl cal_r02_Csngl (by kernel_rfl)
@[match_pattern] abbrev f_r03_Byte : Nat := 129
theorem fn_r03_Byte : Tryz.prog.funcs[f_r03_Byte]? = some Tryz.f129 := Tryz.func129
abbrev n_r03_Byte : Nat := 16
theorem nt_r03_Byte : Tryz.f129.ntmps = n_r03_Byte := Tryz.ntmps129
abbrev k_r03_Byte : List Nat := [0, 1, 4, 5, 10]
abbrev rs_r03_Byte : List ResultVar := [.tmp 4, .tmp 5]
theorem cal_r03_Byte : Sx.Callee Tryz.prog f_r03_Byte := ⟨_, Tryz.func129, by kernel_rfl, by kernel_rfl⟩
noncomputable abbrev in_r03_Byte (ct : CT) : Ent := .st (inlS tt ct n_r03_Byte k_r03_Byte rs_r03_Byte 60 (Tryz.f129.body.getD .skip))
theorem in_r03_Byte_ok {ct : CT} (h : CTok Tryz.prog ct) : EntOk Tryz.prog f_r03_Byte (in_r03_Byte ct) := inl_ok tt_ok h 60 fn_r03_Byte rfl nt_r03_Byte rfl cal_r03_Byte (by kernel_rfl)
@[match_pattern] abbrev f_r03_SetByte : Nat := 130
theorem fn_r03_SetByte : Tryz.prog.funcs[f_r03_SetByte]? = some Tryz.f130 := Tryz.func130
abbrev n_r03_SetByte : Nat := 20
theorem nt_r03_SetByte : Tryz.f130.ntmps = n_r03_SetByte := Tryz.ntmps130
abbrev k_r03_SetByte : List Nat := [0, 1, 2, 6, 7, 12]
abbrev rs_r03_SetByte : List ResultVar := [.tmp 6, .tmp 7]
theorem cal_r03_SetByte : Sx.Callee Tryz.prog f_r03_SetByte := ⟨_, Tryz.func130, by kernel_rfl, by kernel_rfl⟩
noncomputable abbrev in_r03_SetByte (ct : CT) : Ent := .st (inlS tt ct n_r03_SetByte k_r03_SetByte rs_r03_SetByte 60 (Tryz.f130.body.getD .skip))
theorem in_r03_SetByte_ok {ct : CT} (h : CTok Tryz.prog ct) : EntOk Tryz.prog f_r03_SetByte (in_r03_SetByte ct) := inl_ok tt_ok h 60 fn_r03_SetByte rfl nt_r03_SetByte rfl cal_r03_SetByte (by kernel_rfl)
@[match_pattern] abbrev f_r03_Move : Nat := 131
theorem fn_r03_Move : Tryz.prog.funcs[f_r03_Move]? = some Tryz.f131 := Tryz.func131
abbrev n_r03_Move : Nat := 31
theorem nt_r03_Move : Tryz.f131.ntmps = n_r03_Move := Tryz.ntmps131
abbrev k_r03_Move : List Nat := [0, 1, 2, 3, 8, 9, 10, 11, 22]
abbrev rs_r03_Move : List ResultVar := [.tmp 8, .tmp 9]
theorem cal_r03_Move : Sx.Callee Tryz.prog f_r03_Move := ⟨_, Tryz.func131, by kernel_rfl, by kernel_rfl⟩
noncomputable abbrev in_r03_Move (ct : CT) : Ent := .st (inlS tt ct n_r03_Move k_r03_Move rs_r03_Move 60 (Tryz.f131.body.getD .skip))
theorem in_r03_Move_ok {ct : CT} (h : CTok Tryz.prog ct) : EntOk Tryz.prog f_r03_Move (in_r03_Move ct) := inl_ok tt_ok h 60 fn_r03_Move rfl nt_r03_Move rfl cal_r03_Move (by kernel_rfl)
@[match_pattern] abbrev f_r28_lend : Nat := 132
theorem fn_r28_lend : Tryz.prog.funcs[f_r28_lend]? = some Tryz.f132 := Tryz.func132
abbrev n_r28_lend : Nat := 75
theorem nt_r28_lend : Tryz.f132.ntmps = n_r28_lend := Tryz.ntmps132
abbrev k_r28_lend : List Nat := [0, 1, 2, 4, 5, 6, 7, 8, 9, 10, 11, 34, 51]
abbrev rs_r28_lend : List ResultVar := [.cell 4 26, .tmp 5, .tmp 6]
theorem cal_r28_lend : Sx.Callee Tryz.prog f_r28_lend := ⟨_, Tryz.func132, by kernel_rfl, by kernel_rfl⟩
noncomputable abbrev in_r28_lend (ct : CT) : Ent := .st (inlS tt ct n_r28_lend k_r28_lend rs_r28_lend 60 (Tryz.f132.body.getD .skip))
theorem in_r28_lend_ok {ct : CT} (h : CTok Tryz.prog ct) : EntOk Tryz.prog f_r28_lend (in_r28_lend ct) := inl_ok tt_ok h 60 fn_r28_lend rfl nt_r28_lend rfl cal_r28_lend (by kernel_rfl)
@[match_pattern] abbrev f_r03_Wcnt : Nat := 133
theorem fn_r03_Wcnt : Tryz.prog.funcs[f_r03_Wcnt]? = some Tryz.f133 := Tryz.func133
abbrev n_r03_Wcnt : Nat := 19
theorem nt_r03_Wcnt : Tryz.f133.ntmps = n_r03_Wcnt := Tryz.ntmps133
abbrev k_r03_Wcnt : List Nat := [0, 2, 3, 4, 8]
abbrev rs_r03_Wcnt : List ResultVar := [.tmp 2, .tmp 3]
theorem cal_r03_Wcnt : Sx.Callee Tryz.prog f_r03_Wcnt := ⟨_, Tryz.func133, by kernel_rfl, by kernel_rfl⟩
noncomputable abbrev in_r03_Wcnt (ct : CT) : Ent := .st (inlS tt ct n_r03_Wcnt k_r03_Wcnt rs_r03_Wcnt 60 (Tryz.f133.body.getD .skip))
theorem in_r03_Wcnt_ok {ct : CT} (h : CTok Tryz.prog ct) : EntOk Tryz.prog f_r03_Wcnt (in_r03_Wcnt ct) := inl_ok tt_ok h 60 fn_r03_Wcnt rfl nt_r03_Wcnt rfl cal_r03_Wcnt (by kernel_rfl)
@[match_pattern] abbrev f_mem_Mem_span : Nat := 134
theorem fn_mem_Mem_span : Tryz.prog.funcs[f_mem_Mem_span]? = some Tryz.f134 := Tryz.func134
abbrev n_mem_Mem_span : Nat := 44
theorem nt_mem_Mem_span : Tryz.f134.ntmps = n_mem_Mem_span := Tryz.ntmps134
abbrev k_mem_Mem_span : List Nat := [0, 1, 2, 6, 7, 8, 10, 31]
abbrev rs_mem_Mem_span : List ResultVar := [.tmp 6, .tmp 7]
theorem cal_mem_Mem_span : Sx.Callee Tryz.prog f_mem_Mem_span := ⟨_, Tryz.func134, by kernel_rfl, by kernel_rfl⟩
noncomputable abbrev in_mem_Mem_span (ct : CT) : Ent := .st (inlS tt ct n_mem_Mem_span k_mem_Mem_span rs_mem_Mem_span 60 (Tryz.f134.body.getD .skip))
theorem in_mem_Mem_span_ok {ct : CT} (h : CTok Tryz.prog ct) : EntOk Tryz.prog f_mem_Mem_span (in_mem_Mem_span ct) := inl_ok tt_ok h 60 fn_mem_Mem_span rfl nt_mem_Mem_span rfl cal_mem_Mem_span (by kernel_rfl)
@[match_pattern] abbrev f_cpu_machine_fail : Nat := 135
theorem fn_cpu_machine_fail : Tryz.prog.funcs[f_cpu_machine_fail]? = some Tryz.f135 := Tryz.func135
abbrev n_cpu_machine_fail : Nat := 13
theorem nt_cpu_machine_fail : Tryz.f135.ntmps = n_cpu_machine_fail := Tryz.ntmps135
abbrev k_cpu_machine_fail : List Nat := [0, 1, 8]
abbrev rs_cpu_machine_fail : List ResultVar := []
theorem cal_cpu_machine_fail : Sx.Callee Tryz.prog f_cpu_machine_fail := ⟨_, Tryz.func135, by kernel_rfl, by kernel_rfl⟩
noncomputable abbrev in_cpu_machine_fail (ct : CT) : Ent := .st (inlS tt ct n_cpu_machine_fail k_cpu_machine_fail rs_cpu_machine_fail 60 (Tryz.f135.body.getD .skip))
theorem in_cpu_machine_fail_ok {ct : CT} (h : CTok Tryz.prog ct) : EntOk Tryz.prog f_cpu_machine_fail (in_cpu_machine_fail ct) := inl_ok tt_ok h 60 fn_cpu_machine_fail rfl nt_cpu_machine_fail rfl cal_cpu_machine_fail (by kernel_rfl)
@[match_pattern] abbrev f_word_reduce_int64 : Nat := 136
theorem fn_word_reduce_int64 : Tryz.prog.funcs[f_word_reduce_int64]? = some Tryz.f136 := Tryz.func136
abbrev n_word_reduce_int64 : Nat := 11
theorem nt_word_reduce_int64 : Tryz.f136.ntmps = n_word_reduce_int64 := Tryz.ntmps136
abbrev k_word_reduce_int64 : List Nat := [0, 2, 3]
abbrev rs_word_reduce_int64 : List ResultVar := [.tmp 2, .tmp 3]
theorem cal_word_reduce_int64 : Sx.Callee Tryz.prog f_word_reduce_int64 := ⟨_, Tryz.func136, by kernel_rfl, by kernel_rfl⟩
noncomputable abbrev in_word_reduce_int64 (ct : CT) : Ent := .st (inlS tt ct n_word_reduce_int64 k_word_reduce_int64 rs_word_reduce_int64 60 (Tryz.f136.body.getD .skip))
theorem in_word_reduce_int64_ok {ct : CT} (h : CTok Tryz.prog ct) : EntOk Tryz.prog f_word_reduce_int64 (in_word_reduce_int64 ct) := inl_ok tt_ok h 60 fn_word_reduce_int64 rfl nt_word_reduce_int64 rfl cal_word_reduce_int64 (by kernel_rfl)
@[match_pattern] abbrev f_cpu_plain_1 : Nat := 137
theorem fn_cpu_plain_1 : Tryz.prog.funcs[f_cpu_plain_1]? = some Tryz.f137 := Tryz.func137
abbrev n_cpu_plain_1 : Nat := 11
theorem nt_cpu_plain_1 : Tryz.f137.ntmps = n_cpu_plain_1 := Tryz.ntmps137
abbrev k_cpu_plain_1 : List Nat := [0, 1, 2, 5, 6]
abbrev rs_cpu_plain_1 : List ResultVar := [.tmp 5, .tmp 6]
theorem cal_cpu_plain_1 : Sx.Callee Tryz.prog f_cpu_plain_1 := ⟨_, Tryz.func137, by kernel_rfl, by kernel_rfl⟩
noncomputable abbrev in_cpu_plain_1 (ct : CT) : Ent := .st (inlS tt ct n_cpu_plain_1 k_cpu_plain_1 rs_cpu_plain_1 60 (Tryz.f137.body.getD .skip))
theorem in_cpu_plain_1_ok {ct : CT} (h : CTok Tryz.prog ct) : EntOk Tryz.prog f_cpu_plain_1 (in_cpu_plain_1 ct) := inl_ok tt_ok h 60 fn_cpu_plain_1 rfl nt_cpu_plain_1 rfl cal_cpu_plain_1 (by kernel_rfl)
@[match_pattern] abbrev f_word_reduce_uint64 : Nat := 138
theorem fn_word_reduce_uint64 : Tryz.prog.funcs[f_word_reduce_uint64]? = some Tryz.f138 := Tryz.func138
abbrev n_word_reduce_uint64 : Nat := 11
theorem nt_word_reduce_uint64 : Tryz.f138.ntmps = n_word_reduce_uint64 := Tryz.ntmps138
abbrev k_word_reduce_uint64 : List Nat := [0, 2, 3]
abbrev rs_word_reduce_uint64 : List ResultVar := [.tmp 2, .tmp 3]
theorem cal_word_reduce_uint64 : Sx.Callee Tryz.prog f_word_reduce_uint64 := ⟨_, Tryz.func138, by kernel_rfl, by kernel_rfl⟩
noncomputable abbrev in_word_reduce_uint64 (ct : CT) : Ent := .st (inlS tt ct n_word_reduce_uint64 k_word_reduce_uint64 rs_word_reduce_uint64 60 (Tryz.f138.body.getD .skip))
theorem in_word_reduce_uint64_ok {ct : CT} (h : CTok Tryz.prog ct) : EntOk Tryz.prog f_word_reduce_uint64 (in_word_reduce_uint64 ct) := inl_ok tt_ok h 60 fn_word_reduce_uint64 rfl nt_word_reduce_uint64 rfl cal_word_reduce_uint64 (by kernel_rfl)
@[match_pattern] abbrev f_mem_Bcnt : Nat := 139
theorem fn_mem_Bcnt : Tryz.prog.funcs[f_mem_Bcnt]? = some Tryz.f139 := Tryz.func139
abbrev n_mem_Bcnt : Nat := 5
theorem nt_mem_Bcnt : Tryz.f139.ntmps = n_mem_Bcnt := Tryz.ntmps139
abbrev k_mem_Bcnt : List Nat := [0, 2]
abbrev rs_mem_Bcnt : List ResultVar := [.tmp 2]
theorem cal_mem_Bcnt : Sx.Callee Tryz.prog f_mem_Bcnt := ⟨_, Tryz.func139, by kernel_rfl, by kernel_rfl⟩
noncomputable abbrev in_mem_Bcnt (ct : CT) : Ent := .st (inlS tt ct n_mem_Bcnt k_mem_Bcnt rs_mem_Bcnt 60 (Tryz.f139.body.getD .skip))
theorem in_mem_Bcnt_ok {ct : CT} (h : CTok Tryz.prog ct) : EntOk Tryz.prog f_mem_Bcnt (in_mem_Bcnt ct) := inl_ok tt_ok h 60 fn_mem_Bcnt rfl nt_mem_Bcnt rfl cal_mem_Bcnt (by kernel_rfl)
@[match_pattern] abbrev f_mem_Wcnt : Nat := 140
theorem fn_mem_Wcnt : Tryz.prog.funcs[f_mem_Wcnt]? = some Tryz.f140 := Tryz.func140
abbrev n_mem_Wcnt : Nat := 8
theorem nt_mem_Wcnt : Tryz.f140.ntmps = n_mem_Wcnt := Tryz.ntmps140
abbrev k_mem_Wcnt : List Nat := [0, 2, 3]
abbrev rs_mem_Wcnt : List ResultVar := [.tmp 2, .tmp 3]
theorem cal_mem_Wcnt : Sx.Callee Tryz.prog f_mem_Wcnt := ⟨_, Tryz.func140, by kernel_rfl, by kernel_rfl⟩
noncomputable abbrev in_mem_Wcnt (ct : CT) : Ent := .st (inlS tt ct n_mem_Wcnt k_mem_Wcnt rs_mem_Wcnt 60 (Tryz.f140.body.getD .skip))
theorem in_mem_Wcnt_ok {ct : CT} (h : CTok Tryz.prog ct) : EntOk Tryz.prog f_mem_Wcnt (in_mem_Wcnt ct) := inl_ok tt_ok h 60 fn_mem_Wcnt rfl nt_mem_Wcnt rfl cal_mem_Wcnt (by kernel_rfl)
@[match_pattern] abbrev f_long_Add : Nat := 141
theorem fn_long_Add : Tryz.prog.funcs[f_long_Add]? = some Tryz.f141 := Tryz.func141
abbrev n_long_Add : Nat := 20
theorem nt_long_Add : Tryz.f141.ntmps = n_long_Add := Tryz.ntmps141
abbrev k_long_Add : List Nat := [0, 1, 2, 6, 7]
abbrev rs_long_Add : List ResultVar := [.tmp 6, .tmp 7]
theorem cal_long_Add : Sx.Callee Tryz.prog f_long_Add := ⟨_, Tryz.func141, by kernel_rfl, by kernel_rfl⟩
noncomputable abbrev in_long_Add (ct : CT) : Ent := .st (inlS tt ct n_long_Add k_long_Add rs_long_Add 60 (Tryz.f141.body.getD .skip))
theorem in_long_Add_ok {ct : CT} (h : CTok Tryz.prog ct) : EntOk Tryz.prog f_long_Add (in_long_Add ct) := inl_ok tt_ok h 60 fn_long_Add rfl nt_long_Add rfl cal_long_Add (by kernel_rfl)
@[match_pattern] abbrev f_long_Sub : Nat := 142
theorem fn_long_Sub : Tryz.prog.funcs[f_long_Sub]? = some Tryz.f142 := Tryz.func142
abbrev n_long_Sub : Nat := 20
theorem nt_long_Sub : Tryz.f142.ntmps = n_long_Sub := Tryz.ntmps142
abbrev k_long_Sub : List Nat := [0, 1, 2, 6, 7]
abbrev rs_long_Sub : List ResultVar := [.tmp 6, .tmp 7]
theorem cal_long_Sub : Sx.Callee Tryz.prog f_long_Sub := ⟨_, Tryz.func142, by kernel_rfl, by kernel_rfl⟩
noncomputable abbrev in_long_Sub (ct : CT) : Ent := .st (inlS tt ct n_long_Sub k_long_Sub rs_long_Sub 60 (Tryz.f142.body.getD .skip))
theorem in_long_Sub_ok {ct : CT} (h : CTok Tryz.prog ct) : EntOk Tryz.prog f_long_Sub (in_long_Sub ct) := inl_ok tt_ok h 60 fn_long_Sub rfl nt_long_Sub rfl cal_long_Sub (by kernel_rfl)
@[match_pattern] abbrev f_long_Sum : Nat := 143
theorem fn_long_Sum : Tryz.prog.funcs[f_long_Sum]? = some Tryz.f143 := Tryz.func143
abbrev n_long_Sum : Nat := 25
theorem nt_long_Sum : Tryz.f143.ntmps = n_long_Sum := Tryz.ntmps143
abbrev k_long_Sum : List Nat := [0, 1, 2, 6, 7, 8, 9]
abbrev rs_long_Sum : List ResultVar := [.tmp 6, .tmp 7]
theorem cal_long_Sum : Sx.Callee Tryz.prog f_long_Sum := ⟨_, Tryz.func143, by kernel_rfl, by kernel_rfl⟩
noncomputable abbrev in_long_Sum (ct : CT) : Ent := .st (inlS tt ct n_long_Sum k_long_Sum rs_long_Sum 60 (Tryz.f143.body.getD .skip))
theorem in_long_Sum_ok {ct : CT} (h : CTok Tryz.prog ct) : EntOk Tryz.prog f_long_Sum (in_long_Sum ct) := inl_ok tt_ok h 60 fn_long_Sum rfl nt_long_Sum rfl cal_long_Sum (by kernel_rfl)
@[match_pattern] abbrev f_long_Diff : Nat := 144
theorem fn_long_Diff : Tryz.prog.funcs[f_long_Diff]? = some Tryz.f144 := Tryz.func144
abbrev n_long_Diff : Nat := 25
theorem nt_long_Diff : Tryz.f144.ntmps = n_long_Diff := Tryz.ntmps144
abbrev k_long_Diff : List Nat := [0, 1, 2, 6, 7, 8, 9]
abbrev rs_long_Diff : List ResultVar := [.tmp 6, .tmp 7]
theorem cal_long_Diff : Sx.Callee Tryz.prog f_long_Diff := ⟨_, Tryz.func144, by kernel_rfl, by kernel_rfl⟩
noncomputable abbrev in_long_Diff (ct : CT) : Ent := .st (inlS tt ct n_long_Diff k_long_Diff rs_long_Diff 60 (Tryz.f144.body.getD .skip))
theorem in_long_Diff_ok {ct : CT} (h : CTok Tryz.prog ct) : EntOk Tryz.prog f_long_Diff (in_long_Diff ct) := inl_ok tt_ok h 60 fn_long_Diff rfl nt_long_Diff rfl cal_long_Diff (by kernel_rfl)
@[match_pattern] abbrev f_long_Mul : Nat := 145
theorem fn_long_Mul : Tryz.prog.funcs[f_long_Mul]? = some Tryz.f145 := Tryz.func145
abbrev n_long_Mul : Nat := 27
theorem nt_long_Mul : Tryz.f145.ntmps = n_long_Mul := Tryz.ntmps145
abbrev k_long_Mul : List Nat := [0, 1, 2, 6, 7, 8]
abbrev rs_long_Mul : List ResultVar := [.tmp 6, .tmp 7]
theorem cal_long_Mul : Sx.Callee Tryz.prog f_long_Mul := ⟨_, Tryz.func145, by kernel_rfl, by kernel_rfl⟩
noncomputable abbrev in_long_Mul (ct : CT) : Ent := .st (inlS tt ct n_long_Mul k_long_Mul rs_long_Mul 60 (Tryz.f145.body.getD .skip))
theorem in_long_Mul_ok {ct : CT} (h : CTok Tryz.prog ct) : EntOk Tryz.prog f_long_Mul (in_long_Mul ct) := inl_ok tt_ok h 60 fn_long_Mul rfl nt_long_Mul rfl cal_long_Mul (by kernel_rfl)
@[match_pattern] abbrev f_long_Div : Nat := 146
theorem fn_long_Div : Tryz.prog.funcs[f_long_Div]? = some Tryz.f146 := Tryz.func146
abbrev n_long_Div : Nat := 30
theorem nt_long_Div : Tryz.f146.ntmps = n_long_Div := Tryz.ntmps146
abbrev k_long_Div : List Nat := [0, 1, 2, 6, 7, 8, 9, 10, 15]
abbrev rs_long_Div : List ResultVar := [.tmp 6, .tmp 7, .tmp 8]
theorem cal_long_Div : Sx.Callee Tryz.prog f_long_Div := ⟨_, Tryz.func146, by kernel_rfl, by kernel_rfl⟩
noncomputable abbrev in_long_Div (ct : CT) : Ent := .st (inlS tt ct n_long_Div k_long_Div rs_long_Div 60 (Tryz.f146.body.getD .skip))
theorem in_long_Div_ok {ct : CT} (h : CTok Tryz.prog ct) : EntOk Tryz.prog f_long_Div (in_long_Div ct) := inl_ok tt_ok h 60 fn_long_Div rfl nt_long_Div rfl cal_long_Div (by kernel_rfl)
@[match_pattern] abbrev f_long_Shl : Nat := 147
theorem fn_long_Shl : Tryz.prog.funcs[f_long_Shl]? = some Tryz.f147 := Tryz.func147
abbrev n_long_Shl : Nat := 14
theorem nt_long_Shl : Tryz.f147.ntmps = n_long_Shl := Tryz.ntmps147
abbrev k_long_Shl : List Nat := [0, 1, 2, 6, 7]
abbrev rs_long_Shl : List ResultVar := [.tmp 6, .tmp 7]
theorem cal_long_Shl : Sx.Callee Tryz.prog f_long_Shl := ⟨_, Tryz.func147, by kernel_rfl, by kernel_rfl⟩
noncomputable abbrev in_long_Shl (ct : CT) : Ent := .st (inlS tt ct n_long_Shl k_long_Shl rs_long_Shl 60 (Tryz.f147.body.getD .skip))
theorem in_long_Shl_ok {ct : CT} (h : CTok Tryz.prog ct) : EntOk Tryz.prog f_long_Shl (in_long_Shl ct) := inl_ok tt_ok h 60 fn_long_Shl rfl nt_long_Shl rfl cal_long_Shl (by kernel_rfl)
@[match_pattern] abbrev f_long_Shr : Nat := 148
theorem fn_long_Shr : Tryz.prog.funcs[f_long_Shr]? = some Tryz.f148 := Tryz.func148
abbrev n_long_Shr : Nat := 14
theorem nt_long_Shr : Tryz.f148.ntmps = n_long_Shr := Tryz.ntmps148
abbrev k_long_Shr : List Nat := [0, 1, 2, 6, 7]
abbrev rs_long_Shr : List ResultVar := [.tmp 6, .tmp 7]
theorem cal_long_Shr : Sx.Callee Tryz.prog f_long_Shr := ⟨_, Tryz.func148, by kernel_rfl, by kernel_rfl⟩
noncomputable abbrev in_long_Shr (ct : CT) : Ent := .st (inlS tt ct n_long_Shr k_long_Shr rs_long_Shr 60 (Tryz.f148.body.getD .skip))
theorem in_long_Shr_ok {ct : CT} (h : CTok Tryz.prog ct) : EntOk Tryz.prog f_long_Shr (in_long_Shr ct) := inl_ok tt_ok h 60 fn_long_Shr rfl nt_long_Shr rfl cal_long_Shr (by kernel_rfl)
@[match_pattern] abbrev f_long_Norm : Nat := 149
theorem fn_long_Norm : Tryz.prog.funcs[f_long_Norm]? = some Tryz.f149 := Tryz.func149
abbrev n_long_Norm : Nat := 30
theorem nt_long_Norm : Tryz.f149.ntmps = n_long_Norm := Tryz.ntmps149
abbrev k_long_Norm : List Nat := [0, 1, 4, 5, 6, 7, 15]
abbrev rs_long_Norm : List ResultVar := [.tmp 4, .tmp 5, .tmp 6]
theorem cal_long_Norm : Sx.Callee Tryz.prog f_long_Norm := ⟨_, Tryz.func149, by kernel_rfl, by kernel_rfl⟩
noncomputable abbrev in_long_Norm (ct : CT) : Ent := .st (inlS tt ct n_long_Norm k_long_Norm rs_long_Norm 60 (Tryz.f149.body.getD .skip))
theorem in_long_Norm_ok {ct : CT} (h : CTok Tryz.prog ct) : EntOk Tryz.prog f_long_Norm (in_long_Norm ct) := inl_ok tt_ok h 60 fn_long_Norm rfl nt_long_Norm rfl cal_long_Norm (by kernel_rfl)
@[match_pattern] abbrev f_long_Xdble : Nat := 150
theorem fn_long_Xdble : Tryz.prog.funcs[f_long_Xdble]? = some Tryz.f150 := Tryz.func150
abbrev n_long_Xdble : Nat := 7
theorem nt_long_Xdble : Tryz.f150.ntmps = n_long_Xdble := Tryz.ntmps150
abbrev k_long_Xdble : List Nat := [0, 2, 3]
abbrev rs_long_Xdble : List ResultVar := [.tmp 2, .tmp 3]
theorem cal_long_Xdble : Sx.Callee Tryz.prog f_long_Xdble := ⟨_, Tryz.func150, by kernel_rfl, by kernel_rfl⟩
noncomputable abbrev in_long_Xdble (ct : CT) : Ent := .st (inlS tt ct n_long_Xdble k_long_Xdble rs_long_Xdble 60 (Tryz.f150.body.getD .skip))
theorem in_long_Xdble_ok {ct : CT} (h : CTok Tryz.prog ct) : EntOk Tryz.prog f_long_Xdble (in_long_Xdble ct) := inl_ok tt_ok h 60 fn_long_Xdble rfl nt_long_Xdble rfl cal_long_Xdble (by kernel_rfl)
@[match_pattern] abbrev f_long_Csngl : Nat := 151
theorem fn_long_Csngl : Tryz.prog.funcs[f_long_Csngl]? = some Tryz.f151 := Tryz.func151
abbrev n_long_Csngl : Nat := 17
theorem nt_long_Csngl : Tryz.f151.ntmps = n_long_Csngl := Tryz.ntmps151
abbrev k_long_Csngl : List Nat := [0, 1, 4, 5, 7]
abbrev rs_long_Csngl : List ResultVar := [.tmp 4, .tmp 5]
theorem cal_long_Csngl : Sx.Callee Tryz.prog f_long_Csngl := ⟨_, Tryz.func151, by kernel_rfl, by kernel_rfl⟩
noncomputable abbrev in_long_Csngl (ct : CT) : Ent := .st (inlS tt ct n_long_Csngl k_long_Csngl rs_long_Csngl 60 (Tryz.f151.body.getD .skip))
theorem in_long_Csngl_ok {ct : CT} (h : CTok Tryz.prog ct) : EntOk Tryz.prog f_long_Csngl (in_long_Csngl ct) := inl_ok tt_ok h 60 fn_long_Csngl rfl nt_long_Csngl rfl cal_long_Csngl (by kernel_rfl)
@[match_pattern] abbrev f_mem_Mem_Byte : Nat := 152
theorem fn_mem_Mem_Byte : Tryz.prog.funcs[f_mem_Mem_Byte]? = some Tryz.f152 := Tryz.func152
abbrev n_mem_Mem_Byte : Nat := 20
theorem nt_mem_Mem_Byte : Tryz.f152.ntmps = n_mem_Mem_Byte := Tryz.ntmps152
abbrev k_mem_Mem_Byte : List Nat := [0, 1, 4, 5, 6, 7, 15]
abbrev rs_mem_Mem_Byte : List ResultVar := [.tmp 4, .tmp 5]
theorem cal_mem_Mem_Byte : Sx.Callee Tryz.prog f_mem_Mem_Byte := ⟨_, Tryz.func152, by kernel_rfl, by kernel_rfl⟩
noncomputable abbrev in_mem_Mem_Byte (ct : CT) : Ent := .st (inlS tt ct n_mem_Mem_Byte k_mem_Mem_Byte rs_mem_Mem_Byte 60 (Tryz.f152.body.getD .skip))
theorem in_mem_Mem_Byte_ok {ct : CT} (h : CTok Tryz.prog ct) : EntOk Tryz.prog f_mem_Mem_Byte (in_mem_Mem_Byte ct) := inl_ok tt_ok h 60 fn_mem_Mem_Byte rfl nt_mem_Mem_Byte rfl cal_mem_Mem_Byte (by kernel_rfl)
@[match_pattern] abbrev f_mem_Mem_SetByte : Nat := 153
theorem fn_mem_Mem_SetByte : Tryz.prog.funcs[f_mem_Mem_SetByte]? = some Tryz.f153 := Tryz.func153
abbrev n_mem_Mem_SetByte : Nat := 21
theorem nt_mem_Mem_SetByte : Tryz.f153.ntmps = n_mem_Mem_SetByte := Tryz.ntmps153
abbrev k_mem_Mem_SetByte : List Nat := [0, 1, 2, 6, 7, 8, 16]
abbrev rs_mem_Mem_SetByte : List ResultVar := [.tmp 6]
theorem cal_mem_Mem_SetByte : Sx.Callee Tryz.prog f_mem_Mem_SetByte := ⟨_, Tryz.func153, by kernel_rfl, by kernel_rfl⟩
noncomputable abbrev in_mem_Mem_SetByte (ct : CT) : Ent := .st (inlS tt ct n_mem_Mem_SetByte k_mem_Mem_SetByte rs_mem_Mem_SetByte 60 (Tryz.f153.body.getD .skip))
theorem in_mem_Mem_SetByte_ok {ct : CT} (h : CTok Tryz.prog ct) : EntOk Tryz.prog f_mem_Mem_SetByte (in_mem_Mem_SetByte ct) := inl_ok tt_ok h 60 fn_mem_Mem_SetByte rfl nt_mem_Mem_SetByte rfl cal_mem_Mem_SetByte (by kernel_rfl)
@[match_pattern] abbrev f_mem_Mem_Move : Nat := 154
theorem fn_mem_Mem_Move : Tryz.prog.funcs[f_mem_Mem_Move]? = some Tryz.f154 := Tryz.func154
abbrev n_mem_Mem_Move : Nat := 40
theorem nt_mem_Mem_Move : Tryz.f154.ntmps = n_mem_Mem_Move := Tryz.ntmps154
abbrev k_mem_Mem_Move : List Nat := [0, 1, 2, 3, 8, 9, 10, 11, 13, 15, 26]
abbrev rs_mem_Mem_Move : List ResultVar := [.tmp 8]
theorem cal_mem_Mem_Move : Sx.Callee Tryz.prog f_mem_Mem_Move := ⟨_, Tryz.func154, by kernel_rfl, by kernel_rfl⟩
noncomputable abbrev in_mem_Mem_Move (ct : CT) : Ent := .st (inlS tt ct n_mem_Mem_Move k_mem_Mem_Move rs_mem_Mem_Move 60 (Tryz.f154.body.getD .skip))
theorem in_mem_Mem_Move_ok {ct : CT} (h : CTok Tryz.prog ct) : EntOk Tryz.prog f_mem_Mem_Move (in_mem_Mem_Move ct) := inl_ok tt_ok h 60 fn_mem_Mem_Move rfl nt_mem_Mem_Move rfl cal_mem_Mem_Move (by kernel_rfl)
@[match_pattern] abbrev f_r03_Lies : Nat := 155
theorem fn_r03_Lies : Tryz.prog.funcs[f_r03_Lies]? = some Tryz.f155 := Tryz.func155
abbrev n_r03_Lies : Nat := 24
theorem nt_r03_Lies : Tryz.f155.ntmps = n_r03_Lies := Tryz.ntmps155
abbrev k_r03_Lies : List Nat := [0, 1, 2, 6, 7]
abbrev rs_r03_Lies : List ResultVar := [.tmp 6]
theorem cal_r03_Lies : Sx.Callee Tryz.prog f_r03_Lies := ⟨_, Tryz.func155, by kernel_rfl, by kernel_rfl⟩
noncomputable abbrev in_r03_Lies (ct : CT) : Ent := .st (inlS tt ct n_r03_Lies k_r03_Lies rs_r03_Lies 60 (Tryz.f155.body.getD .skip))
theorem in_r03_Lies_ok {ct : CT} (h : CTok Tryz.prog ct) : EntOk Tryz.prog f_r03_Lies (in_r03_Lies ct) := inl_ok tt_ok h 60 fn_r03_Lies rfl nt_r03_Lies rfl cal_r03_Lies (by kernel_rfl)
@[match_pattern] abbrev f_r03_Index : Nat := 156
theorem fn_r03_Index : Tryz.prog.funcs[f_r03_Index]? = some Tryz.f156 := Tryz.func156
abbrev n_r03_Index : Nat := 6
theorem nt_r03_Index : Tryz.f156.ntmps = n_r03_Index := Tryz.ntmps156
abbrev k_r03_Index : List Nat := [0, 2]
abbrev rs_r03_Index : List ResultVar := [.tmp 2]
theorem cal_r03_Index : Sx.Callee Tryz.prog f_r03_Index := ⟨_, Tryz.func156, by kernel_rfl, by kernel_rfl⟩
noncomputable abbrev in_r03_Index (ct : CT) : Ent := .st (inlS tt ct n_r03_Index k_r03_Index rs_r03_Index 60 (Tryz.f156.body.getD .skip))
theorem in_r03_Index_ok {ct : CT} (h : CTok Tryz.prog ct) : EntOk Tryz.prog f_r03_Index (in_r03_Index ct) := inl_ok tt_ok h 60 fn_r03_Index rfl nt_r03_Index rfl cal_r03_Index (by kernel_rfl)
@[match_pattern] abbrev f_r01_Fits : Nat := 157
theorem fn_r01_Fits : Tryz.prog.funcs[f_r01_Fits]? = some Tryz.f157 := Tryz.func157
abbrev n_r01_Fits : Nat := 9
theorem nt_r01_Fits : Tryz.f157.ntmps = n_r01_Fits := Tryz.ntmps157
abbrev k_r01_Fits : List Nat := [0, 2]
abbrev rs_r01_Fits : List ResultVar := [.tmp 2]
theorem cal_r01_Fits : Sx.Callee Tryz.prog f_r01_Fits := ⟨_, Tryz.func157, by kernel_rfl, by kernel_rfl⟩
noncomputable abbrev in_r01_Fits (ct : CT) : Ent := .st (inlS tt ct n_r01_Fits k_r01_Fits rs_r01_Fits 60 (Tryz.f157.body.getD .skip))
theorem in_r01_Fits_ok {ct : CT} (h : CTok Tryz.prog ct) : EntOk Tryz.prog f_r01_Fits (in_r01_Fits ct) := inl_ok tt_ok h 60 fn_r01_Fits rfl nt_r01_Fits rfl cal_r01_Fits (by kernel_rfl)
@[match_pattern] abbrev f_r03_put : Nat := 158
theorem fn_r03_put : Tryz.prog.funcs[f_r03_put]? = some Tryz.f158 := Tryz.func158
abbrev n_r03_put : Nat := 24
theorem nt_r03_put : Tryz.f158.ntmps = n_r03_put := Tryz.ntmps158
abbrev k_r03_put : List Nat := [0, 1, 2, 6, 7]
abbrev rs_r03_put : List ResultVar := [.tmp 6]
theorem cal_r03_put : Sx.Callee Tryz.prog f_r03_put := ⟨_, Tryz.func158, by kernel_rfl, by kernel_rfl⟩
noncomputable abbrev in_r03_put (ct : CT) : Ent := .st (inlS tt ct n_r03_put k_r03_put rs_r03_put 60 (Tryz.f158.body.getD .skip))
theorem in_r03_put_ok {ct : CT} (h : CTok Tryz.prog ct) : EntOk Tryz.prog f_r03_put (in_r03_put ct) := inl_ok tt_ok h 60 fn_r03_put rfl nt_r03_put rfl cal_r03_put (by kernel_rfl)
@[match_pattern] abbrev f_r03_Four : Nat := 159
theorem fn_r03_Four : Tryz.prog.funcs[f_r03_Four]? = some Tryz.f159 := Tryz.func159
abbrev n_r03_Four : Nat := 18
theorem nt_r03_Four : Tryz.f159.ntmps = n_r03_Four := Tryz.ntmps159
abbrev k_r03_Four : List Nat := [0, 2, 3]
abbrev rs_r03_Four : List ResultVar := [.tmp 2]
theorem cal_r03_Four : Sx.Callee Tryz.prog f_r03_Four := ⟨_, Tryz.func159, by kernel_rfl, by kernel_rfl⟩
noncomputable abbrev in_r03_Four (ct : CT) : Ent := .st (inlS tt ct n_r03_Four k_r03_Four rs_r03_Four 60 (Tryz.f159.body.getD .skip))
theorem in_r03_Four_ok {ct : CT} (h : CTok Tryz.prog ct) : EntOk Tryz.prog f_r03_Four (in_r03_Four ct) := inl_ok tt_ok h 60 fn_r03_Four rfl nt_r03_Four rfl cal_r03_Four (by kernel_rfl)
@[match_pattern] abbrev f_r01_size : Nat := 160
theorem fn_r01_size : Tryz.prog.funcs[f_r01_size]? = some Tryz.f160 := Tryz.func160
abbrev n_r01_size : Nat := 10
theorem nt_r01_size : Tryz.f160.ntmps = n_r01_size := Tryz.ntmps160
abbrev k_r01_size : List Nat := [0, 2, 4]
abbrev rs_r01_size : List ResultVar := [.tmp 2]
theorem cal_r01_size : Sx.Callee Tryz.prog f_r01_size := ⟨_, Tryz.func160, by kernel_rfl, by kernel_rfl⟩
noncomputable abbrev in_r01_size (ct : CT) : Ent := .st (inlS tt ct n_r01_size k_r01_size rs_r01_size 60 (Tryz.f160.body.getD .skip))
theorem in_r01_size_ok {ct : CT} (h : CTok Tryz.prog ct) : EntOk Tryz.prog f_r01_size (in_r01_size ct) := inl_ok tt_ok h 60 fn_r01_size rfl nt_r01_size rfl cal_r01_size (by kernel_rfl)
@[match_pattern] abbrev f_r01_Unsigned : Nat := 161
theorem fn_r01_Unsigned : Tryz.prog.funcs[f_r01_Unsigned]? = some Tryz.f161 := Tryz.func161
abbrev n_r01_Unsigned : Nat := 10
theorem nt_r01_Unsigned : Tryz.f161.ntmps = n_r01_Unsigned := Tryz.ntmps161
abbrev k_r01_Unsigned : List Nat := [0, 2, 4]
abbrev rs_r01_Unsigned : List ResultVar := [.tmp 2]
theorem cal_r01_Unsigned : Sx.Callee Tryz.prog f_r01_Unsigned := ⟨_, Tryz.func161, by kernel_rfl, by kernel_rfl⟩
noncomputable abbrev in_r01_Unsigned (ct : CT) : Ent := .st (inlS tt ct n_r01_Unsigned k_r01_Unsigned rs_r01_Unsigned 60 (Tryz.f161.body.getD .skip))
theorem in_r01_Unsigned_ok {ct : CT} (h : CTok Tryz.prog ct) : EntOk Tryz.prog f_r01_Unsigned (in_r01_Unsigned ct) := inl_ok tt_ok h 60 fn_r01_Unsigned rfl nt_r01_Unsigned rfl cal_r01_Unsigned (by kernel_rfl)
@[match_pattern] abbrev f_r02_wrap : Nat := 162
theorem fn_r02_wrap : Tryz.prog.funcs[f_r02_wrap]? = some Tryz.f162 := Tryz.func162
abbrev n_r02_wrap : Nat := 22
theorem nt_r02_wrap : Tryz.f162.ntmps = n_r02_wrap := Tryz.ntmps162
abbrev k_r02_wrap : List Nat := [0, 2, 3, 4, 12, 16]
abbrev rs_r02_wrap : List ResultVar := [.tmp 2, .tmp 3]
theorem cal_r02_wrap : Sx.Callee Tryz.prog f_r02_wrap := ⟨_, Tryz.func162, by kernel_rfl, by kernel_rfl⟩
noncomputable abbrev in_r02_wrap (ct : CT) : Ent := .st (inlS tt ct n_r02_wrap k_r02_wrap rs_r02_wrap 60 (Tryz.f162.body.getD .skip))
theorem in_r02_wrap_ok {ct : CT} (h : CTok Tryz.prog ct) : EntOk Tryz.prog f_r02_wrap (in_r02_wrap ct) := inl_ok tt_ok h 60 fn_r02_wrap rfl nt_r02_wrap rfl cal_r02_wrap (by kernel_rfl)
@[match_pattern] abbrev f_r02_bits : Nat := 163
theorem fn_r02_bits : Tryz.prog.funcs[f_r02_bits]? = some Tryz.f163 := Tryz.func163
abbrev n_r02_bits : Nat := 20
theorem nt_r02_bits : Tryz.f163.ntmps = n_r02_bits := Tryz.ntmps163
abbrev k_r02_bits : List Nat := [0, 2, 3, 4, 5, 9]
abbrev rs_r02_bits : List ResultVar := [.tmp 2]
theorem cal_r02_bits : Sx.Callee Tryz.prog f_r02_bits := ⟨_, Tryz.func163, by kernel_rfl, by kernel_rfl⟩
noncomputable abbrev in_r02_bits (ct : CT) : Ent := .st (inlS tt ct n_r02_bits k_r02_bits rs_r02_bits 60 (Tryz.f163.body.getD .skip))
theorem in_r02_bits_ok {ct : CT} (h : CTok Tryz.prog ct) : EntOk Tryz.prog f_r02_bits (in_r02_bits ct) := inl_ok tt_ok h 60 fn_r02_bits rfl nt_r02_bits rfl cal_r02_bits (by kernel_rfl)
@[match_pattern] abbrev f_r02_plus : Nat := 164
theorem fn_r02_plus : Tryz.prog.funcs[f_r02_plus]? = some Tryz.f164 := Tryz.func164
abbrev n_r02_plus : Nat := 37
theorem nt_r02_plus : Tryz.f164.ntmps = n_r02_plus := Tryz.ntmps164
abbrev k_r02_plus : List Nat := [0, 1, 2, 6, 7, 8, 9, 10, 14]
abbrev rs_r02_plus : List ResultVar := [.tmp 6, .tmp 7]
theorem cal_r02_plus : Sx.Callee Tryz.prog f_r02_plus := ⟨_, Tryz.func164, by kernel_rfl, by kernel_rfl⟩
noncomputable abbrev in_r02_plus (ct : CT) : Ent := .st (inlS tt ct n_r02_plus k_r02_plus rs_r02_plus 60 (Tryz.f164.body.getD .skip))
theorem in_r02_plus_ok {ct : CT} (h : CTok Tryz.prog ct) : EntOk Tryz.prog f_r02_plus (in_r02_plus ct) := inl_ok tt_ok h 60 fn_r02_plus rfl nt_r02_plus rfl cal_r02_plus (by kernel_rfl)
@[match_pattern] abbrev f_r02_word : Nat := 165
theorem fn_r02_word : Tryz.prog.funcs[f_r02_word]? = some Tryz.f165 := Tryz.func165
abbrev n_r02_word : Nat := 21
theorem nt_r02_word : Tryz.f165.ntmps = n_r02_word := Tryz.ntmps165
abbrev k_r02_word : List Nat := [0, 2, 3, 4, 9]
abbrev rs_r02_word : List ResultVar := [.tmp 2]
theorem cal_r02_word : Sx.Callee Tryz.prog f_r02_word := ⟨_, Tryz.func165, by kernel_rfl, by kernel_rfl⟩
noncomputable abbrev in_r02_word (ct : CT) : Ent := .st (inlS tt ct n_r02_word k_r02_word rs_r02_word 60 (Tryz.f165.body.getD .skip))
theorem in_r02_word_ok {ct : CT} (h : CTok Tryz.prog ct) : EntOk Tryz.prog f_r02_word (in_r02_word ct) := inl_ok tt_ok h 60 fn_r02_word rfl nt_r02_word rfl cal_r02_word (by kernel_rfl)
@[match_pattern] abbrev f_r02_double : Nat := 166
theorem fn_r02_double : Tryz.prog.funcs[f_r02_double]? = some Tryz.f166 := Tryz.func166
abbrev n_r02_double : Nat := 10
theorem nt_r02_double : Tryz.f166.ntmps = n_r02_double := Tryz.ntmps166
abbrev k_r02_double : List Nat := [0, 1, 4]
abbrev rs_r02_double : List ResultVar := [.tmp 4]
theorem cal_r02_double : Sx.Callee Tryz.prog f_r02_double := ⟨_, Tryz.func166, by kernel_rfl, by kernel_rfl⟩
noncomputable abbrev in_r02_double (ct : CT) : Ent := .st (inlS tt ct n_r02_double k_r02_double rs_r02_double 60 (Tryz.f166.body.getD .skip))
theorem in_r02_double_ok {ct : CT} (h : CTok Tryz.prog ct) : EntOk Tryz.prog f_r02_double (in_r02_double ct) := inl_ok tt_ok h 60 fn_r02_double rfl nt_r02_double rfl cal_r02_double (by kernel_rfl)
@[match_pattern] abbrev f_r02_left : Nat := 167
theorem fn_r02_left : Tryz.prog.funcs[f_r02_left]? = some Tryz.f167 := Tryz.func167
abbrev n_r02_left : Nat := 23
theorem nt_r02_left : Tryz.f167.ntmps = n_r02_left := Tryz.ntmps167
abbrev k_r02_left : List Nat := [0, 1, 4, 5, 6, 10]
abbrev rs_r02_left : List ResultVar := [.tmp 4]
theorem cal_r02_left : Sx.Callee Tryz.prog f_r02_left := ⟨_, Tryz.func167, by kernel_rfl, by kernel_rfl⟩
noncomputable abbrev in_r02_left (ct : CT) : Ent := .st (inlS tt ct n_r02_left k_r02_left rs_r02_left 60 (Tryz.f167.body.getD .skip))
theorem in_r02_left_ok {ct : CT} (h : CTok Tryz.prog ct) : EntOk Tryz.prog f_r02_left (in_r02_left ct) := inl_ok tt_ok h 60 fn_r02_left rfl nt_r02_left rfl cal_r02_left (by kernel_rfl)
@[match_pattern] abbrev f_r02_Value : Nat := 168
theorem fn_r02_Value : Tryz.prog.funcs[f_r02_Value]? = some Tryz.f168 := Tryz.func168
abbrev n_r02_Value : Nat := 11
theorem nt_r02_Value : Tryz.f168.ntmps = n_r02_Value := Tryz.ntmps168
abbrev k_r02_Value : List Nat := [0, 2, 3, 7]
abbrev rs_r02_Value : List ResultVar := [.tmp 2]
theorem cal_r02_Value : Sx.Callee Tryz.prog f_r02_Value := ⟨_, Tryz.func168, by kernel_rfl, by kernel_rfl⟩
noncomputable abbrev in_r02_Value (ct : CT) : Ent := .st (inlS tt ct n_r02_Value k_r02_Value rs_r02_Value 60 (Tryz.f168.body.getD .skip))
theorem in_r02_Value_ok {ct : CT} (h : CTok Tryz.prog ct) : EntOk Tryz.prog f_r02_Value (in_r02_Value ct) := inl_ok tt_ok h 60 fn_r02_Value rfl nt_r02_Value rfl cal_r02_Value (by kernel_rfl)
@[match_pattern] abbrev f_r02_Word : Nat := 169
theorem fn_r02_Word : Tryz.prog.funcs[f_r02_Word]? = some Tryz.f169 := Tryz.func169
abbrev n_r02_Word : Nat := 9
theorem nt_r02_Word : Tryz.f169.ntmps = n_r02_Word := Tryz.ntmps169
abbrev k_r02_Word : List Nat := [0, 2, 4]
abbrev rs_r02_Word : List ResultVar := [.tmp 2]
theorem cal_r02_Word : Sx.Callee Tryz.prog f_r02_Word := ⟨_, Tryz.func169, by kernel_rfl, by kernel_rfl⟩
noncomputable abbrev in_r02_Word (ct : CT) : Ent := .st (inlS tt ct n_r02_Word k_r02_Word rs_r02_Word 60 (Tryz.f169.body.getD .skip))
theorem in_r02_Word_ok {ct : CT} (h : CTok Tryz.prog ct) : EntOk Tryz.prog f_r02_Word (in_r02_Word ct) := inl_ok tt_ok h 60 fn_r02_Word rfl nt_r02_Word rfl cal_r02_Word (by kernel_rfl)
@[match_pattern] abbrev f_r02_right : Nat := 170
theorem fn_r02_right : Tryz.prog.funcs[f_r02_right]? = some Tryz.f170 := Tryz.func170
abbrev n_r02_right : Nat := 24
theorem nt_r02_right : Tryz.f170.ntmps = n_r02_right := Tryz.ntmps170
abbrev k_r02_right : List Nat := [0, 1, 4, 5, 6, 11]
abbrev rs_r02_right : List ResultVar := [.tmp 4]
theorem cal_r02_right : Sx.Callee Tryz.prog f_r02_right := ⟨_, Tryz.func170, by kernel_rfl, by kernel_rfl⟩
noncomputable abbrev in_r02_right (ct : CT) : Ent := .st (inlS tt ct n_r02_right k_r02_right rs_r02_right 60 (Tryz.f170.body.getD .skip))
theorem in_r02_right_ok {ct : CT} (h : CTok Tryz.prog ct) : EntOk Tryz.prog f_r02_right (in_r02_right ct) := inl_ok tt_ok h 60 fn_r02_right rfl nt_r02_right rfl cal_r02_right (by kernel_rfl)
@[match_pattern] abbrev f_r03_Read : Nat := 171
theorem fn_r03_Read : Tryz.prog.funcs[f_r03_Read]? = some Tryz.f171 := Tryz.func171
abbrev n_r03_Read : Nat := 29
theorem nt_r03_Read : Tryz.f171.ntmps = n_r03_Read := Tryz.ntmps171
abbrev k_r03_Read : List Nat := [0, 1, 2, 6, 7, 8, 10, 12, 18]
abbrev rs_r03_Read : List ResultVar := [.tmp 6, .tmp 7]
theorem cal_r03_Read : Sx.Callee Tryz.prog f_r03_Read := ⟨_, Tryz.func171, by kernel_rfl, by kernel_rfl⟩
noncomputable abbrev in_r03_Read (ct : CT) : Ent := .st (inlS tt ct n_r03_Read k_r03_Read rs_r03_Read 60 (Tryz.f171.body.getD .skip))
theorem in_r03_Read_ok {ct : CT} (h : CTok Tryz.prog ct) : EntOk Tryz.prog f_r03_Read (in_r03_Read ct) := inl_ok tt_ok h 60 fn_r03_Read rfl nt_r03_Read rfl cal_r03_Read (by kernel_rfl)
@[match_pattern] abbrev f_r03_Write : Nat := 172
theorem fn_r03_Write : Tryz.prog.funcs[f_r03_Write]? = some Tryz.f172 := Tryz.func172
abbrev n_r03_Write : Nat := 25
theorem nt_r03_Write : Tryz.f172.ntmps = n_r03_Write := Tryz.ntmps172
abbrev k_r03_Write : List Nat := [0, 1, 2, 6, 7, 10, 18]
abbrev rs_r03_Write : List ResultVar := [.tmp 6, .tmp 7]
theorem cal_r03_Write : Sx.Callee Tryz.prog f_r03_Write := ⟨_, Tryz.func172, by kernel_rfl, by kernel_rfl⟩
noncomputable abbrev in_r03_Write (ct : CT) : Ent := .st (inlS tt ct n_r03_Write k_r03_Write rs_r03_Write 60 (Tryz.f172.body.getD .skip))
theorem in_r03_Write_ok {ct : CT} (h : CTok Tryz.prog ct) : EntOk Tryz.prog f_r03_Write (in_r03_Write ct) := inl_ok tt_ok h 60 fn_r03_Write rfl nt_r03_Write rfl cal_r03_Write (by kernel_rfl)
@[match_pattern] abbrev f_long_signed : Nat := 173
theorem fn_long_signed : Tryz.prog.funcs[f_long_signed]? = some Tryz.f173 := Tryz.func173
abbrev n_long_signed : Nat := 11
theorem nt_long_signed : Tryz.f173.ntmps = n_long_signed := Tryz.ntmps173
abbrev k_long_signed : List Nat := [0, 2, 3]
abbrev rs_long_signed : List ResultVar := [.tmp 2, .tmp 3]
theorem cal_long_signed : Sx.Callee Tryz.prog f_long_signed := ⟨_, Tryz.func173, by kernel_rfl, by kernel_rfl⟩
noncomputable abbrev in_long_signed (ct : CT) : Ent := .st (inlS tt ct n_long_signed k_long_signed rs_long_signed 60 (Tryz.f173.body.getD .skip))
theorem in_long_signed_ok {ct : CT} (h : CTok Tryz.prog ct) : EntOk Tryz.prog f_long_signed (in_long_signed ct) := inl_ok tt_ok h 60 fn_long_signed rfl nt_long_signed rfl cal_long_signed (by kernel_rfl)
@[match_pattern] abbrev f_math_bits_Add32 : Nat := 174
theorem fn_math_bits_Add32 : Tryz.prog.funcs[f_math_bits_Add32]? = some Tryz.f174 := Tryz.func174
abbrev n_math_bits_Add32 : Nat := 22
theorem nt_math_bits_Add32 : Tryz.f174.ntmps = n_math_bits_Add32 := Tryz.ntmps174
abbrev k_math_bits_Add32 : List Nat := [0, 1, 2, 6, 7, 8]
abbrev rs_math_bits_Add32 : List ResultVar := [.tmp 6, .tmp 7]
theorem cal_math_bits_Add32 : Sx.Callee Tryz.prog f_math_bits_Add32 := ⟨_, Tryz.func174, by kernel_rfl, by kernel_rfl⟩
noncomputable abbrev in_math_bits_Add32 (ct : CT) : Ent := .st (inlS tt ct n_math_bits_Add32 k_math_bits_Add32 rs_math_bits_Add32 60 (Tryz.f174.body.getD .skip))
theorem in_math_bits_Add32_ok {ct : CT} (h : CTok Tryz.prog ct) : EntOk Tryz.prog f_math_bits_Add32 (in_math_bits_Add32 ct) := inl_ok tt_ok h 60 fn_math_bits_Add32 rfl nt_math_bits_Add32 rfl cal_math_bits_Add32 (by kernel_rfl)
@[match_pattern] abbrev f_math_bits_Sub32 : Nat := 175
theorem fn_math_bits_Sub32 : Tryz.prog.funcs[f_math_bits_Sub32]? = some Tryz.f175 := Tryz.func175
abbrev n_math_bits_Sub32 : Nat := 25
theorem nt_math_bits_Sub32 : Tryz.f175.ntmps = n_math_bits_Sub32 := Tryz.ntmps175
abbrev k_math_bits_Sub32 : List Nat := [0, 1, 2, 6, 7]
abbrev rs_math_bits_Sub32 : List ResultVar := [.tmp 6, .tmp 7]
theorem cal_math_bits_Sub32 : Sx.Callee Tryz.prog f_math_bits_Sub32 := ⟨_, Tryz.func175, by kernel_rfl, by kernel_rfl⟩
noncomputable abbrev in_math_bits_Sub32 (ct : CT) : Ent := .st (inlS tt ct n_math_bits_Sub32 k_math_bits_Sub32 rs_math_bits_Sub32 60 (Tryz.f175.body.getD .skip))
theorem in_math_bits_Sub32_ok {ct : CT} (h : CTok Tryz.prog ct) : EntOk Tryz.prog f_math_bits_Sub32 (in_math_bits_Sub32 ct) := inl_ok tt_ok h 60 fn_math_bits_Sub32 rfl nt_math_bits_Sub32 rfl cal_math_bits_Sub32 (by kernel_rfl)
@[match_pattern] abbrev f_long_split : Nat := 176
theorem fn_long_split : Tryz.prog.funcs[f_long_split]? = some Tryz.f176 := Tryz.func176
abbrev n_long_split : Nat := 9
theorem nt_long_split : Tryz.f176.ntmps = n_long_split := Tryz.ntmps176
abbrev k_long_split : List Nat := [0, 2]
abbrev rs_long_split : List ResultVar := [.cell 2 142]
theorem cal_long_split : Sx.Callee Tryz.prog f_long_split := ⟨_, Tryz.func176, by kernel_rfl, by kernel_rfl⟩
noncomputable abbrev in_long_split (ct : CT) : Ent := .st (inlS tt ct n_long_split k_long_split rs_long_split 60 (Tryz.f176.body.getD .skip))
theorem in_long_split_ok {ct : CT} (h : CTok Tryz.prog ct) : EntOk Tryz.prog f_long_split (in_long_split ct) := inl_ok tt_ok h 60 fn_long_split rfl nt_long_split rfl cal_long_split (by kernel_rfl)
@[match_pattern] abbrev f_math_bits_Div32 : Nat := 177
theorem fn_math_bits_Div32 : Tryz.prog.funcs[f_math_bits_Div32]? = some Tryz.f177 := Tryz.func177
abbrev n_math_bits_Div32 : Nat := 33
theorem nt_math_bits_Div32 : Tryz.f177.ntmps = n_math_bits_Div32 := Tryz.ntmps177
abbrev k_math_bits_Div32 : List Nat := [0, 1, 2, 6, 7, 8, 15]
abbrev rs_math_bits_Div32 : List ResultVar := [.tmp 6, .tmp 7]
theorem cal_math_bits_Div32 : Sx.Callee Tryz.prog f_math_bits_Div32 := ⟨_, Tryz.func177, by kernel_rfl, by kernel_rfl⟩
noncomputable abbrev in_math_bits_Div32 (ct : CT) : Ent := .st (inlS tt ct n_math_bits_Div32 k_math_bits_Div32 rs_math_bits_Div32 60 (Tryz.f177.body.getD .skip))
theorem in_math_bits_Div32_ok {ct : CT} (h : CTok Tryz.prog ct) : EntOk Tryz.prog f_math_bits_Div32 (in_math_bits_Div32 ct) := inl_ok tt_ok h 60 fn_math_bits_Div32 rfl nt_math_bits_Div32 rfl cal_math_bits_Div32 (by kernel_rfl)
@[match_pattern] abbrev f_long_shifted : Nat := 178
theorem fn_long_shifted : Tryz.prog.funcs[f_long_shifted]? = some Tryz.f178 := Tryz.func178
abbrev n_long_shifted : Nat := 27
theorem nt_long_shifted : Tryz.f178.ntmps = n_long_shifted := Tryz.ntmps178
abbrev k_long_shifted : List Nat := [0, 1, 2, 3, 8, 9, 10]
abbrev rs_long_shifted : List ResultVar := [.tmp 8, .tmp 9]
theorem cal_long_shifted : Sx.Callee Tryz.prog f_long_shifted := ⟨_, Tryz.func178, by kernel_rfl, by kernel_rfl⟩
noncomputable abbrev in_long_shifted (ct : CT) : Ent := .st (inlS tt ct n_long_shifted k_long_shifted rs_long_shifted 60 (Tryz.f178.body.getD .skip))
theorem in_long_shifted_ok {ct : CT} (h : CTok Tryz.prog ct) : EntOk Tryz.prog f_long_shifted (in_long_shifted ct) := inl_ok tt_ok h 60 fn_long_shifted rfl nt_long_shifted rfl cal_long_shifted (by kernel_rfl)
@[match_pattern] abbrev f_long_double_left : Nat := 179
theorem fn_long_double_left : Tryz.prog.funcs[f_long_double_left]? = some Tryz.f179 := Tryz.func179
abbrev n_long_double_left : Nat := 10
theorem nt_long_double_left : Tryz.f179.ntmps = n_long_double_left := Tryz.ntmps179
abbrev k_long_double_left : List Nat := [0, 1, 2, 4]
abbrev rs_long_double_left : List ResultVar := [.cell 4 142]
theorem cal_long_double_left : Sx.Callee Tryz.prog f_long_double_left := ⟨_, Tryz.func179, by kernel_rfl, by kernel_rfl⟩
noncomputable abbrev in_long_double_left (ct : CT) : Ent := .st (inlS tt ct n_long_double_left k_long_double_left rs_long_double_left 60 (Tryz.f179.body.getD .skip))
theorem in_long_double_left_ok {ct : CT} (h : CTok Tryz.prog ct) : EntOk Tryz.prog f_long_double_left (in_long_double_left ct) := inl_ok tt_ok h 60 fn_long_double_left rfl nt_long_double_left rfl cal_long_double_left (by kernel_rfl)
@[match_pattern] abbrev f_long_double_right : Nat := 180
theorem fn_long_double_right : Tryz.prog.funcs[f_long_double_right]? = some Tryz.f180 := Tryz.func180
abbrev n_long_double_right : Nat := 10
theorem nt_long_double_right : Tryz.f180.ntmps = n_long_double_right := Tryz.ntmps180
abbrev k_long_double_right : List Nat := [0, 1, 2, 4]
abbrev rs_long_double_right : List ResultVar := [.cell 4 142]
theorem cal_long_double_right : Sx.Callee Tryz.prog f_long_double_right := ⟨_, Tryz.func180, by kernel_rfl, by kernel_rfl⟩
noncomputable abbrev in_long_double_right (ct : CT) : Ent := .st (inlS tt ct n_long_double_right k_long_double_right rs_long_double_right 60 (Tryz.f180.body.getD .skip))
theorem in_long_double_right_ok {ct : CT} (h : CTok Tryz.prog ct) : EntOk Tryz.prog f_long_double_right (in_long_double_right ct) := inl_ok tt_ok h 60 fn_long_double_right rfl nt_long_double_right rfl cal_long_double_right (by kernel_rfl)
@[match_pattern] abbrev f_math_bits_LeadingZeros64 : Nat := 181
theorem fn_math_bits_LeadingZeros64 : Tryz.prog.funcs[f_math_bits_LeadingZeros64]? = some Tryz.f181 := Tryz.func181
abbrev n_math_bits_LeadingZeros64 : Nat := 6
theorem nt_math_bits_LeadingZeros64 : Tryz.f181.ntmps = n_math_bits_LeadingZeros64 := Tryz.ntmps181
abbrev k_math_bits_LeadingZeros64 : List Nat := [0, 2]
abbrev rs_math_bits_LeadingZeros64 : List ResultVar := [.tmp 2]
theorem cal_math_bits_LeadingZeros64 : Sx.Callee Tryz.prog f_math_bits_LeadingZeros64 := ⟨_, Tryz.func181, by kernel_rfl, by kernel_rfl⟩
noncomputable abbrev in_math_bits_LeadingZeros64 (ct : CT) : Ent := .st (inlS tt ct n_math_bits_LeadingZeros64 k_math_bits_LeadingZeros64 rs_math_bits_LeadingZeros64 60 (Tryz.f181.body.getD .skip))
theorem in_math_bits_LeadingZeros64_ok {ct : CT} (h : CTok Tryz.prog ct) : EntOk Tryz.prog f_math_bits_LeadingZeros64 (in_math_bits_LeadingZeros64 ct) := inl_ok tt_ok h 60 fn_math_bits_LeadingZeros64 rfl nt_math_bits_LeadingZeros64 rfl cal_math_bits_LeadingZeros64 (by kernel_rfl)
@[match_pattern] abbrev f_long_double_value : Nat := 182
theorem fn_long_double_value : Tryz.prog.funcs[f_long_double_value]? = some Tryz.f182 := Tryz.func182
abbrev n_long_double_value : Nat := 11
theorem nt_long_double_value : Tryz.f182.ntmps = n_long_double_value := Tryz.ntmps182
abbrev k_long_double_value : List Nat := [0, 1, 2]
abbrev rs_long_double_value : List ResultVar := [.tmp 2]
theorem cal_long_double_value : Sx.Callee Tryz.prog f_long_double_value := ⟨_, Tryz.func182, by kernel_rfl, by kernel_rfl⟩
noncomputable abbrev in_long_double_value (ct : CT) : Ent := .st (inlS tt ct n_long_double_value k_long_double_value rs_long_double_value 60 (Tryz.f182.body.getD .skip))
theorem in_long_double_value_ok {ct : CT} (h : CTok Tryz.prog ct) : EntOk Tryz.prog f_long_double_value (in_long_double_value ct) := inl_ok tt_ok h 60 fn_long_double_value rfl nt_long_double_value rfl cal_long_double_value (by kernel_rfl)
@[match_pattern] abbrev f_math_bits_Len64 : Nat := 183
theorem fn_math_bits_Len64 : Tryz.prog.funcs[f_math_bits_Len64]? = some Tryz.f183 := Tryz.func183
abbrev n_math_bits_Len64 : Nat := 25
theorem nt_math_bits_Len64 : Tryz.f183.ntmps = n_math_bits_Len64 := Tryz.ntmps183
abbrev k_math_bits_Len64 : List Nat := [0, 2, 4, 8, 14]
abbrev rs_math_bits_Len64 : List ResultVar := [.tmp 2]
theorem cal_math_bits_Len64 : Sx.Callee Tryz.prog f_math_bits_Len64 := ⟨_, Tryz.func183, by kernel_rfl, by kernel_rfl⟩
noncomputable abbrev in_math_bits_Len64 (ct : CT) : Ent := .st (inlS tt ct n_math_bits_Len64 k_math_bits_Len64 rs_math_bits_Len64 60 (Tryz.f183.body.getD .skip))
theorem in_math_bits_Len64_ok {ct : CT} (h : CTok Tryz.prog ct) : EntOk Tryz.prog f_math_bits_Len64 (in_math_bits_Len64 ct) := inl_ok tt_ok h 60 fn_math_bits_Len64 rfl nt_math_bits_Len64 rfl cal_math_bits_Len64 (by kernel_rfl)
end Go.Proofs
