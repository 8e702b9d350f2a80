/- Types, slots and numbers of this seat's functions (printed by a program). -/
import Derived.Test.YtbefefoegbfamaaSxC
import Derived.Test.YtbefefoegbfamaaProg

namespace Go.Proofs
open Go Go.Sx
def ti2 : TI := { size := 1, zv := .int .i64 0, agg := false, kd := .int .i64 }
theorem tok2 : TIok Try.prog 2 ti2 := ⟨by kernel_rfl, by kernel_rfl, by kernel_rfl, by kernel_rfl, fun _ h => by cases h⟩
def ti3 : TI := { size := 1, zv := .int .i64 0, agg := false, kd := .int .i64 }
theorem tok3 : TIok Try.prog 3 ti3 := ⟨by kernel_rfl, by kernel_rfl, by kernel_rfl, by kernel_rfl, fun _ h => by cases h⟩
def ti4 : TI := { size := 1, zv := .bool false, agg := false, kd := .bool }
theorem tok4 : TIok Try.prog 4 ti4 := ⟨by kernel_rfl, by kernel_rfl, by kernel_rfl, by kernel_rfl, fun _ h => by cases h⟩
def ti5 : TI := { size := 1, zv := .int .u8 0, agg := false, kd := .int .u8 }
theorem tok5 : TIok Try.prog 5 ti5 := ⟨by kernel_rfl, by kernel_rfl, by kernel_rfl, by kernel_rfl, fun _ h => by cases h⟩
def ti9 : TI := { size := 1, zv := .string ByteArray.empty, agg := false, kd := .str }
theorem tok9 : TIok Try.prog 9 ti9 := ⟨by kernel_rfl, by kernel_rfl, by kernel_rfl, by kernel_rfl, fun _ h => by cases h⟩
def ti21 : TI := { size := 1, zv := .int .i32 0, agg := false, kd := .int .i32 }
theorem tok21 : TIok Try.prog 21 ti21 := ⟨by kernel_rfl, by kernel_rfl, by kernel_rfl, by kernel_rfl, fun _ h => by cases h⟩
def ti22 : TI := { size := 1, zv := .slice none 0 0, agg := false, kd := .slice 5 1 1 }
theorem tok22 : TIok Try.prog 22 ti22 := ⟨by kernel_rfl, by kernel_rfl, by kernel_rfl, by kernel_rfl, fun _ h => by cases h⟩
def ti23 : TI := { size := 1, zv := .int .u64 0, agg := false, kd := .int .u64 }
theorem tok23 : TIok Try.prog 23 ti23 := ⟨by kernel_rfl, by kernel_rfl, by kernel_rfl, by kernel_rfl, fun _ h => by cases h⟩
def ti24 : TI := { size := 2, zv := .agg #[.slice none 0 0, .slice none 0 0], agg := true, kd := .arr 2 1 false }
theorem tok24 : TIok Try.prog 24 ti24 := ⟨by kernel_rfl, by kernel_rfl, by kernel_rfl, by kernel_rfl, fun _ h => by cases h⟩
def ti26 : TI := { size := 2, zv := .agg #[.int .u8 0, .int .i32 0], agg := true, kd := .struct [(0, (1, false)), (1, (1, false))], flat := some [some .u8, some .i32] }
theorem tok26 : TIok Try.prog 26 ti26 := ⟨by kernel_rfl, by kernel_rfl, by kernel_rfl, by kernel_rfl, fun _ h => by cases h; exact flatEq_of (by kernel_rfl) (by kernel_rfl) (by kernel_rfl)⟩
def ti27 : TI := { size := 1, zv := .int .i64 0, agg := false, kd := .int .i64 }
theorem tok27 : TIok Try.prog 27 ti27 := ⟨by kernel_rfl, by kernel_rfl, by kernel_rfl, by kernel_rfl, fun _ h => by cases h⟩
def ti41 : TI := { size := 2, zv := .agg #[.int .i64 0, .int .i64 0], agg := true, kd := .arr 2 1 false }
theorem tok41 : TIok Try.prog 41 ti41 := ⟨by kernel_rfl, by kernel_rfl, by kernel_rfl, by kernel_rfl, fun _ h => by cases h⟩
def ti47 : TI := { size := 1, zv := .slice none 0 0, agg := false, kd := .slice 26 2 8 }
theorem tok47 : TIok Try.prog 47 ti47 := ⟨by kernel_rfl, by kernel_rfl, by kernel_rfl, by kernel_rfl, fun _ h => by cases h⟩
def ti64 : TI := { size := 1, zv := .nilFunc, agg := false, kd := .fn }
theorem tok64 : TIok Try.prog 64 ti64 := ⟨by kernel_rfl, by kernel_rfl, by kernel_rfl, by kernel_rfl, fun _ h => by cases h⟩
def ti65 : TI := { size := 1, zv := .nilFunc, agg := false, kd := .fn }
theorem tok65 : TIok Try.prog 65 ti65 := ⟨by kernel_rfl, by kernel_rfl, by kernel_rfl, by kernel_rfl, fun _ h => by cases h⟩
def ti67 : TI := { size := 1, zv := .nilFunc, agg := false, kd := .fn }
theorem tok67 : TIok Try.prog 67 ti67 := ⟨by kernel_rfl, by kernel_rfl, by kernel_rfl, by kernel_rfl, fun _ h => by cases h⟩
abbrev tt : TT := [(2, ti2), (3, ti3), (4, ti4), (5, ti5), (9, ti9), (21, ti21), (22, ti22), (23, ti23), (24, ti24), (26, ti26), (27, ti27), (41, ti41), (47, ti47), (64, ti64), (65, ti65), (67, ti67)]
theorem tt_ok : TTok Try.prog tt := ⟨tok2, tok3, tok4, tok5, tok9, tok21, tok22, tok23, tok24, tok26, tok27, tok41, tok47, tok64, tok65, tok67, (show Try.prog.follows .mixedOrders = true by kernel_rfl)⟩
@[match_pattern] abbrev f_l04_CodeGets : Nat := 3
theorem fn_l04_CodeGets : Try.prog.funcs[f_l04_CodeGets]? = some Try.f3 := Try.func3
abbrev n_l04_CodeGets : Nat := 93
theorem nt_l04_CodeGets : Try.f3.ntmps = n_l04_CodeGets := Try.ntmps3
abbrev k_l04_CodeGets : List Nat := [0, 1, 2, 6, 7, 8, 9, 11, 12, 13, 14, 15, 16, 17, 18, 28, 36, 52, 53, 54, 90]
abbrev rs_l04_CodeGets : List ResultVar := [.tmp 6]
theorem cal_l04_CodeGets : Sx.Callee Try.prog f_l04_CodeGets := ⟨_, Try.func3, by kernel_rfl, by kernel_rfl⟩
noncomputable abbrev in_l04_CodeGets (ct : CT) : Ent := .st (inlS tt ct n_l04_CodeGets k_l04_CodeGets rs_l04_CodeGets 60 (Try.f3.body.getD .skip))
theorem in_l04_CodeGets_ok {ct : CT} (h : CTok Try.prog ct) : EntOk Try.prog f_l04_CodeGets (in_l04_CodeGets ct) := inl_ok tt_ok h 60 fn_l04_CodeGets rfl nt_l04_CodeGets rfl cal_l04_CodeGets (by kernel_rfl)
@[match_pattern] abbrev f_l04_CodeFront : Nat := 4
theorem fn_l04_CodeFront : Try.prog.funcs[f_l04_CodeFront]? = some Try.f4 := Try.func4
abbrev n_l04_CodeFront : Nat := 85
theorem nt_l04_CodeFront : Try.f4.ntmps = n_l04_CodeFront := Try.ntmps4
abbrev k_l04_CodeFront : List Nat := [0, 1, 4, 5, 6, 7, 8, 9, 10, 12, 13, 31, 40]
abbrev rs_l04_CodeFront : List ResultVar := [.tmp 4]
theorem cal_l04_CodeFront : Sx.Callee Try.prog f_l04_CodeFront := ⟨_, Try.func4, by kernel_rfl, by kernel_rfl⟩
noncomputable abbrev in_l04_CodeFront (ct : CT) : Ent := .st (inlS tt ct n_l04_CodeFront k_l04_CodeFront rs_l04_CodeFront 60 (Try.f4.body.getD .skip))
theorem in_l04_CodeFront_ok {ct : CT} (h : CTok Try.prog ct) : EntOk Try.prog f_l04_CodeFront (in_l04_CodeFront ct) := inl_ok tt_ok h 60 fn_l04_CodeFront rfl nt_l04_CodeFront rfl cal_l04_CodeFront (by kernel_rfl)
@[match_pattern] abbrev f_l04_CodeShortest : Nat := 5
theorem fn_l04_CodeShortest : Try.prog.funcs[f_l04_CodeShortest]? = some Try.f5 := Try.func5
abbrev n_l04_CodeShortest : Nat := 88
theorem nt_l04_CodeShortest : Try.f5.ntmps = n_l04_CodeShortest := Try.ntmps5
abbrev k_l04_CodeShortest : List Nat := [0, 2, 3, 4, 5, 6, 7, 8, 9, 10, 23]
abbrev rs_l04_CodeShortest : List ResultVar := [.tmp 2]
theorem cal_l04_CodeShortest : Sx.Callee Try.prog f_l04_CodeShortest := ⟨_, Try.func5, by kernel_rfl, by kernel_rfl⟩
noncomputable abbrev in_l04_CodeShortest (ct : CT) : Ent := .st (inlS tt ct n_l04_CodeShortest k_l04_CodeShortest rs_l04_CodeShortest 60 (Try.f5.body.getD .skip))
theorem in_l04_CodeShortest_ok {ct : CT} (h : CTok Try.prog ct) : EntOk Try.prog f_l04_CodeShortest (in_l04_CodeShortest ct) := inl_ok tt_ok h 60 fn_l04_CodeShortest rfl nt_l04_CodeShortest rfl cal_l04_CodeShortest (by kernel_rfl)
@[match_pattern] abbrev f_l04_CodePuts : Nat := 6
theorem fn_l04_CodePuts : Try.prog.funcs[f_l04_CodePuts]? = some Try.f6 := Try.func6
abbrev n_l04_CodePuts : Nat := 73
theorem nt_l04_CodePuts : Try.f6.ntmps = n_l04_CodePuts := Try.ntmps6
abbrev k_l04_CodePuts : List Nat := [0, 1, 2, 4, 5, 6, 7, 8, 10, 11, 12, 13, 14, 41, 45, 46, 47, 70]
abbrev rs_l04_CodePuts : List ResultVar := [.tmp 4]
theorem cal_l04_CodePuts : Sx.Callee Try.prog f_l04_CodePuts := ⟨_, Try.func6, by kernel_rfl, by kernel_rfl⟩
noncomputable abbrev in_l04_CodePuts (ct : CT) : Ent := .st (inlS tt ct n_l04_CodePuts k_l04_CodePuts rs_l04_CodePuts 60 (Try.f6.body.getD .skip))
theorem in_l04_CodePuts_ok {ct : CT} (h : CTok Try.prog ct) : EntOk Try.prog f_l04_CodePuts (in_l04_CodePuts ct) := inl_ok tt_ok h 60 fn_l04_CodePuts rfl nt_l04_CodePuts rfl cal_l04_CodePuts (by kernel_rfl)
@[match_pattern] abbrev f_l04_CodePads : Nat := 7
theorem fn_l04_CodePads : Try.prog.funcs[f_l04_CodePads]? = some Try.f7 := Try.func7
abbrev n_l04_CodePads : Nat := 92
theorem nt_l04_CodePads : Try.f7.ntmps = n_l04_CodePads := Try.ntmps7
abbrev k_l04_CodePads : List Nat := [0, 1, 2, 4, 5, 6, 7, 8, 9, 10, 11, 12, 22, 58]
abbrev rs_l04_CodePads : List ResultVar := [.tmp 4]
theorem cal_l04_CodePads : Sx.Callee Try.prog f_l04_CodePads := ⟨_, Try.func7, by kernel_rfl, by kernel_rfl⟩
noncomputable abbrev in_l04_CodePads (ct : CT) : Ent := .st (inlS tt ct n_l04_CodePads k_l04_CodePads rs_l04_CodePads 60 (Try.f7.body.getD .skip))
theorem in_l04_CodePads_ok {ct : CT} (h : CTok Try.prog ct) : EntOk Try.prog f_l04_CodePads (in_l04_CodePads ct) := inl_ok tt_ok h 60 fn_l04_CodePads rfl nt_l04_CodePads rfl cal_l04_CodePads (by kernel_rfl)
@[match_pattern] abbrev f_l04_CodeLists : Nat := 8
theorem fn_l04_CodeLists : Try.prog.funcs[f_l04_CodeLists]? = some Try.f8 := Try.func8
abbrev n_l04_CodeLists : Nat := 86
theorem nt_l04_CodeLists : Try.f8.ntmps = n_l04_CodeLists := Try.ntmps8
abbrev k_l04_CodeLists : List Nat := [0, 1, 4, 5, 6, 7, 8, 9, 10, 11, 12, 13, 14]
abbrev rs_l04_CodeLists : List ResultVar := [.tmp 4]
theorem cal_l04_CodeLists : Sx.Callee Try.prog f_l04_CodeLists := ⟨_, Try.func8, by kernel_rfl, by kernel_rfl⟩
noncomputable abbrev in_l04_CodeLists (ct : CT) : Ent := .st (inlS tt ct n_l04_CodeLists k_l04_CodeLists rs_l04_CodeLists 60 (Try.f8.body.getD .skip))
theorem in_l04_CodeLists_ok {ct : CT} (h : CTok Try.prog ct) : EntOk Try.prog f_l04_CodeLists (in_l04_CodeLists ct) := inl_ok tt_ok h 60 fn_l04_CodeLists rfl nt_l04_CodeLists rfl cal_l04_CodeLists (by kernel_rfl)
@[match_pattern] abbrev f_l04_CodeBack : Nat := 9
theorem fn_l04_CodeBack : Try.prog.funcs[f_l04_CodeBack]? = some Try.f9 := Try.func9
abbrev n_l04_CodeBack : Nat := 97
theorem nt_l04_CodeBack : Try.f9.ntmps = n_l04_CodeBack := Try.ntmps9
abbrev k_l04_CodeBack : List Nat := [0, 2, 3, 4, 5, 6, 7, 8, 9, 10, 11, 12, 13, 15, 22, 23, 24, 56, 58, 59, 60, 88]
abbrev rs_l04_CodeBack : List ResultVar := [.tmp 2]
theorem cal_l04_CodeBack : Sx.Callee Try.prog f_l04_CodeBack := ⟨_, Try.func9, by kernel_rfl, by kernel_rfl⟩
noncomputable abbrev in_l04_CodeBack (ct : CT) : Ent := .st (inlS tt ct n_l04_CodeBack k_l04_CodeBack rs_l04_CodeBack 60 (Try.f9.body.getD .skip))
theorem in_l04_CodeBack_ok {ct : CT} (h : CTok Try.prog ct) : EntOk Try.prog f_l04_CodeBack (in_l04_CodeBack ct) := inl_ok tt_ok h 60 fn_l04_CodeBack rfl nt_l04_CodeBack rfl cal_l04_CodeBack (by kernel_rfl)
@[match_pattern] abbrev f_l04_CodeKnown : Nat := 10
theorem fn_l04_CodeKnown : Try.prog.funcs[f_l04_CodeKnown]? = some Try.f10 := Try.func10
abbrev n_l04_CodeKnown : Nat := 290
theorem nt_l04_CodeKnown : Try.f10.ntmps = n_l04_CodeKnown := Try.ntmps10
abbrev k_l04_CodeKnown : List Nat := [0, 1, 2, 4, 6, 7, 8, 10, 12, 14, 15, 18, 21, 22, 23, 24, 27, 28, 29, 30, 32, 33, 34, 36, 37, 38, 40, 41, 42, 44, 45]
abbrev rs_l04_CodeKnown : List ResultVar := [.tmp 0]
theorem cal_l04_CodeKnown : Sx.Callee Try.prog f_l04_CodeKnown := ⟨_, Try.func10, by kernel_rfl, by kernel_rfl⟩
noncomputable abbrev in_l04_CodeKnown (ct : CT) : Ent := .st (inlS tt ct n_l04_CodeKnown k_l04_CodeKnown rs_l04_CodeKnown 60 (Try.f10.body.getD .skip))
theorem in_l04_CodeKnown_ok {ct : CT} (h : CTok Try.prog ct) : EntOk Try.prog f_l04_CodeKnown (in_l04_CodeKnown ct) := inl_ok tt_ok h 60 fn_l04_CodeKnown rfl nt_l04_CodeKnown rfl cal_l04_CodeKnown (by kernel_rfl)
@[match_pattern] abbrev f_code_Get : Nat := 11
theorem fn_code_Get : Try.prog.funcs[f_code_Get]? = some Try.f11 := Try.func11
abbrev n_code_Get : Nat := 48
theorem nt_code_Get : Try.f11.ntmps = n_code_Get := Try.ntmps11
abbrev k_code_Get : List Nat := [0, 2, 3, 4, 5, 6, 7, 10, 11, 12, 27, 33, 37, 45]
abbrev rs_code_Get : List ResultVar := [.cell 2 26, .tmp 3, .tmp 4]
theorem cal_code_Get : Sx.Callee Try.prog f_code_Get := ⟨_, Try.func11, by kernel_rfl, by kernel_rfl⟩
noncomputable abbrev in_code_Get (ct : CT) : Ent := .st (inlS tt ct n_code_Get k_code_Get rs_code_Get 60 (Try.f11.body.getD .skip))
theorem in_code_Get_ok {ct : CT} (h : CTok Try.prog ct) : EntOk Try.prog f_code_Get (in_code_Get ct) := inl_ok tt_ok h 60 fn_code_Get rfl nt_code_Get rfl cal_code_Get (by kernel_rfl)
@[match_pattern] abbrev f_r04_Get : Nat := 12
theorem fn_r04_Get : Try.prog.funcs[f_r04_Get]? = some Try.f12 := Try.func12
abbrev n_r04_Get : Nat := 56
theorem nt_r04_Get : Try.f12.ntmps = n_r04_Get := Try.ntmps12
abbrev k_r04_Get : List Nat := [0, 2, 3, 4, 5, 6, 7, 15, 36, 44, 53]
abbrev rs_r04_Get : List ResultVar := [.cell 2 26, .tmp 3, .tmp 4]
theorem cal_r04_Get : Sx.Callee Try.prog f_r04_Get := ⟨_, Try.func12, by kernel_rfl, by kernel_rfl⟩
noncomputable abbrev in_r04_Get (ct : CT) : Ent := .st (inlS tt ct n_r04_Get k_r04_Get rs_r04_Get 60 (Try.f12.body.getD .skip))
theorem in_r04_Get_ok {ct : CT} (h : CTok Try.prog ct) : EntOk Try.prog f_r04_Get (in_r04_Get ct) := inl_ok tt_ok h 60 fn_r04_Get rfl nt_r04_Get rfl cal_r04_Get (by kernel_rfl)
@[match_pattern] abbrev f_l04_works : Nat := 13
theorem fn_l04_works : Try.prog.funcs[f_l04_works]? = some Try.f13 := Try.func13
abbrev n_l04_works : Nat := 30
theorem nt_l04_works : Try.f13.ntmps = n_l04_works := Try.ntmps13
abbrev k_l04_works : List Nat := [0, 1, 2, 3]
abbrev rs_l04_works : List ResultVar := [.tmp 0]
theorem cal_l04_works : Sx.Callee Try.prog f_l04_works := ⟨_, Try.func13, by kernel_rfl, by kernel_rfl⟩
noncomputable abbrev in_l04_works (ct : CT) : Ent := .st (inlS tt ct n_l04_works k_l04_works rs_l04_works 60 (Try.f13.body.getD .skip))
theorem in_l04_works_ok {ct : CT} (h : CTok Try.prog ct) : EntOk Try.prog f_l04_works (in_l04_works ct) := inl_ok tt_ok h 60 fn_l04_works rfl nt_l04_works rfl cal_l04_works (by kernel_rfl)
@[match_pattern] abbrev f_code_Put : Nat := 14
theorem fn_code_Put : Try.prog.funcs[f_code_Put]? = some Try.f14 := Try.func14
abbrev n_code_Put : Nat := 12
theorem nt_code_Put : Try.f14.ntmps = n_code_Put := Try.ntmps14
abbrev k_code_Put : List Nat := [0, 1, 2, 3, 6]
abbrev rs_code_Put : List ResultVar := [.tmp 2, .tmp 3]
theorem cal_code_Put : Sx.Callee Try.prog f_code_Put := ⟨_, Try.func14, by kernel_rfl, by kernel_rfl⟩
noncomputable abbrev in_code_Put (ct : CT) : Ent := .st (inlS tt ct n_code_Put k_code_Put rs_code_Put 60 (Try.f14.body.getD .skip))
theorem in_code_Put_ok {ct : CT} (h : CTok Try.prog ct) : EntOk Try.prog f_code_Put (in_code_Put ct) := inl_ok tt_ok h 60 fn_code_Put rfl nt_code_Put rfl cal_code_Put (by kernel_rfl)
@[match_pattern] abbrev f_code_Len : Nat := 15
theorem fn_code_Len : Try.prog.funcs[f_code_Len]? = some Try.f15 := Try.func15
abbrev n_code_Len : Nat := 12
theorem nt_code_Len : Try.f15.ntmps = n_code_Len := Try.ntmps15
abbrev k_code_Len : List Nat := [0, 1, 2, 5]
abbrev rs_code_Len : List ResultVar := [.tmp 2]
theorem cal_code_Len : Sx.Callee Try.prog f_code_Len := ⟨_, Try.func15, by kernel_rfl, by kernel_rfl⟩
noncomputable abbrev in_code_Len (ct : CT) : Ent := .st (inlS tt ct n_code_Len k_code_Len rs_code_Len 60 (Try.f15.body.getD .skip))
theorem in_code_Len_ok {ct : CT} (h : CTok Try.prog ct) : EntOk Try.prog f_code_Len (in_code_Len ct) := inl_ok tt_ok h 60 fn_code_Len rfl nt_code_Len rfl cal_code_Len (by kernel_rfl)
@[match_pattern] abbrev f_r04_Put : Nat := 16
theorem fn_r04_Put : Try.prog.funcs[f_r04_Put]? = some Try.f16 := Try.func16
abbrev n_r04_Put : Nat := 14
theorem nt_r04_Put : Try.f16.ntmps = n_r04_Put := Try.ntmps16
abbrev k_r04_Put : List Nat := [0, 1, 2, 3, 6]
abbrev rs_r04_Put : List ResultVar := [.tmp 2, .tmp 3]
theorem cal_r04_Put : Sx.Callee Try.prog f_r04_Put := ⟨_, Try.func16, by kernel_rfl, by kernel_rfl⟩
noncomputable abbrev in_r04_Put (ct : CT) : Ent := .st (inlS tt ct n_r04_Put k_r04_Put rs_r04_Put 60 (Try.f16.body.getD .skip))
theorem in_r04_Put_ok {ct : CT} (h : CTok Try.prog ct) : EntOk Try.prog f_r04_Put (in_r04_Put ct) := inl_ok tt_ok h 60 fn_r04_Put rfl nt_r04_Put rfl cal_r04_Put (by kernel_rfl)
@[match_pattern] abbrev f_r04_Len : Nat := 17
theorem fn_r04_Len : Try.prog.funcs[f_r04_Len]? = some Try.f17 := Try.func17
abbrev n_r04_Len : Nat := 12
theorem nt_r04_Len : Try.f17.ntmps = n_r04_Len := Try.ntmps17
abbrev k_r04_Len : List Nat := [0, 1, 2, 3]
abbrev rs_r04_Len : List ResultVar := [.tmp 2]
theorem cal_r04_Len : Sx.Callee Try.prog f_r04_Len := ⟨_, Try.func17, by kernel_rfl, by kernel_rfl⟩
noncomputable abbrev in_r04_Len (ct : CT) : Ent := .st (inlS tt ct n_r04_Len k_r04_Len rs_r04_Len 60 (Try.f17.body.getD .skip))
theorem in_r04_Len_ok {ct : CT} (h : CTok Try.prog ct) : EntOk Try.prog f_r04_Len (in_r04_Len ct) := inl_ok tt_ok h 60 fn_r04_Len rfl nt_r04_Len rfl cal_r04_Len (by kernel_rfl)
@[match_pattern] abbrev f_code_Pad : Nat := 18
theorem fn_code_Pad : Try.prog.funcs[f_code_Pad]? = some Try.f18 := Try.func18
abbrev n_code_Pad : Nat := 35
theorem nt_code_Pad : Try.f18.ntmps = n_code_Pad := Try.ntmps18
abbrev k_code_Pad : List Nat := [0, 1, 2, 4, 5, 6, 7, 11, 16, 22, 23, 24]
abbrev rs_code_Pad : List ResultVar := [.tmp 4, .tmp 5]
theorem cal_code_Pad : Sx.Callee Try.prog f_code_Pad := ⟨_, Try.func18, by kernel_rfl, by kernel_rfl⟩
noncomputable abbrev in_code_Pad (ct : CT) : Ent := .st (inlS tt ct n_code_Pad k_code_Pad rs_code_Pad 60 (Try.f18.body.getD .skip))
theorem in_code_Pad_ok {ct : CT} (h : CTok Try.prog ct) : EntOk Try.prog f_code_Pad (in_code_Pad ct) := inl_ok tt_ok h 60 fn_code_Pad rfl nt_code_Pad rfl cal_code_Pad (by kernel_rfl)
@[match_pattern] abbrev f_r04_Pad : Nat := 19
theorem fn_r04_Pad : Try.prog.funcs[f_r04_Pad]? = some Try.f19 := Try.func19
abbrev n_r04_Pad : Nat := 37
theorem nt_r04_Pad : Try.f19.ntmps = n_r04_Pad := Try.ntmps19
abbrev k_r04_Pad : List Nat := [0, 1, 2, 4, 5, 6, 7, 8, 12, 16, 18, 23]
abbrev rs_r04_Pad : List ResultVar := [.tmp 4, .tmp 5]
theorem cal_r04_Pad : Sx.Callee Try.prog f_r04_Pad := ⟨_, Try.func19, by kernel_rfl, by kernel_rfl⟩
noncomputable abbrev in_r04_Pad (ct : CT) : Ent := .st (inlS tt ct n_r04_Pad k_r04_Pad rs_r04_Pad 60 (Try.f19.body.getD .skip))
theorem in_r04_Pad_ok {ct : CT} (h : CTok Try.prog ct) : EntOk Try.prog f_r04_Pad (in_r04_Pad ct) := inl_ok tt_ok h 60 fn_r04_Pad rfl nt_r04_Pad rfl cal_r04_Pad (by kernel_rfl)
@[match_pattern] abbrev f_l04_fix : Nat := 20
theorem fn_l04_fix : Try.prog.funcs[f_l04_fix]? = some Try.f20 := Try.func20
abbrev n_l04_fix : Nat := 20
theorem nt_l04_fix : Try.f20.ntmps = n_l04_fix := Try.ntmps20
abbrev k_l04_fix : List Nat := [0, 1, 2, 14]
abbrev rs_l04_fix : List ResultVar := [.cell 2 26]
theorem cal_l04_fix : Sx.Callee Try.prog f_l04_fix := ⟨_, Try.func20, by kernel_rfl, by kernel_rfl⟩
noncomputable abbrev in_l04_fix (ct : CT) : Ent := .st (inlS tt ct n_l04_fix k_l04_fix rs_l04_fix 60 (Try.f20.body.getD .skip))
theorem in_l04_fix_ok {ct : CT} (h : CTok Try.prog ct) : EntOk Try.prog f_l04_fix (in_l04_fix ct) := inl_ok tt_ok h 60 fn_l04_fix rfl nt_l04_fix rfl cal_l04_fix (by kernel_rfl)
@[match_pattern] abbrev f_code_Join : Nat := 21
theorem fn_code_Join : Try.prog.funcs[f_code_Join]? = some Try.f21 := Try.func21
abbrev n_code_Join : Nat := 42
theorem nt_code_Join : Try.f21.ntmps = n_code_Join := Try.ntmps21
abbrev k_code_Join : List Nat := [0, 2, 3, 4, 6, 7, 9, 10, 11, 12, 13, 18, 25, 28, 29, 30, 31]
abbrev rs_code_Join : List ResultVar := [.tmp 2, .tmp 3]
theorem cal_code_Join : Sx.Callee Try.prog f_code_Join := ⟨_, Try.func21, by kernel_rfl, by kernel_rfl⟩
noncomputable abbrev in_code_Join (ct : CT) : Ent := .st (inlS tt ct n_code_Join k_code_Join rs_code_Join 60 (Try.f21.body.getD .skip))
theorem in_code_Join_ok {ct : CT} (h : CTok Try.prog ct) : EntOk Try.prog f_code_Join (in_code_Join ct) := inl_ok tt_ok h 60 fn_code_Join rfl nt_code_Join rfl cal_code_Join (by kernel_rfl)
@[match_pattern] abbrev f_r04_Join : Nat := 22
theorem fn_r04_Join : Try.prog.funcs[f_r04_Join]? = some Try.f22 := Try.func22
abbrev n_r04_Join : Nat := 42
theorem nt_r04_Join : Try.f22.ntmps = n_r04_Join := Try.ntmps22
abbrev k_r04_Join : List Nat := [0, 2, 3, 4, 5, 6, 7, 12, 20, 24, 40]
abbrev rs_r04_Join : List ResultVar := [.tmp 2, .tmp 3]
theorem cal_r04_Join : Sx.Callee Try.prog f_r04_Join := ⟨_, Try.func22, by kernel_rfl, by kernel_rfl⟩
noncomputable abbrev in_r04_Join (ct : CT) : Ent := .st (inlS tt ct n_r04_Join k_r04_Join rs_r04_Join 60 (Try.f22.body.getD .skip))
theorem in_r04_Join_ok {ct : CT} (h : CTok Try.prog ct) : EntOk Try.prog f_r04_Join (in_r04_Join ct) := inl_ok tt_ok h 60 fn_r04_Join rfl nt_r04_Join rfl cal_r04_Join (by kernel_rfl)
@[match_pattern] abbrev f_code_All : Nat := 23
theorem fn_code_All : Try.prog.funcs[f_code_All]? = some Try.f23 := Try.func23
abbrev n_code_All : Nat := 24
theorem nt_code_All : Try.f23.ntmps = n_code_All := Try.ntmps23
abbrev k_code_All : List Nat := [0, 2, 3, 4, 5, 6, 7, 10, 12, 13, 14, 16]
abbrev rs_code_All : List ResultVar := [.tmp 2, .tmp 3]
theorem cal_code_All : Sx.Callee Try.prog f_code_All := ⟨_, Try.func23, by kernel_rfl, by kernel_rfl⟩
noncomputable abbrev in_code_All (ct : CT) : Ent := .st (inlS tt ct n_code_All k_code_All rs_code_All 60 (Try.f23.body.getD .skip))
theorem in_code_All_ok {ct : CT} (h : CTok Try.prog ct) : EntOk Try.prog f_code_All (in_code_All ct) := inl_ok tt_ok h 60 fn_code_All rfl nt_code_All rfl cal_code_All (by kernel_rfl)
@[match_pattern] abbrev f_r04_All : Nat := 24
theorem fn_r04_All : Try.prog.funcs[f_r04_All]? = some Try.f24 := Try.func24
abbrev n_r04_All : Nat := 35
theorem nt_r04_All : Try.f24.ntmps = n_r04_All := Try.ntmps24
abbrev k_r04_All : List Nat := [0, 2, 3, 4, 5, 6, 7, 8, 11, 15, 25]
abbrev rs_r04_All : List ResultVar := [.tmp 2, .tmp 3]
theorem cal_r04_All : Sx.Callee Try.prog f_r04_All := ⟨_, Try.func24, by kernel_rfl, by kernel_rfl⟩
noncomputable abbrev in_r04_All (ct : CT) : Ent := .st (inlS tt ct n_r04_All k_r04_All rs_r04_All 60 (Try.f24.body.getD .skip))
theorem in_r04_All_ok {ct : CT} (h : CTok Try.prog ct) : EntOk Try.prog f_r04_All (in_r04_All ct) := inl_ok tt_ok h 60 fn_r04_All rfl nt_r04_All rfl cal_r04_All (by kernel_rfl)
@[match_pattern] abbrev f_r04_Same : Nat := 25
theorem fn_r04_Same : Try.prog.funcs[f_r04_Same]? = some Try.f25 := Try.func25
abbrev n_r04_Same : Nat := 26
theorem nt_r04_Same : Try.f25.ntmps = n_r04_Same := Try.ntmps25
abbrev k_r04_Same : List Nat := [0, 1, 4, 5, 10, 14, 25]
abbrev rs_r04_Same : List ResultVar := [.tmp 4]
theorem cal_r04_Same : Sx.Callee Try.prog f_r04_Same := ⟨_, Try.func25, by kernel_rfl, by kernel_rfl⟩
noncomputable abbrev in_r04_Same (ct : CT) : Ent := .st (inlS tt ct n_r04_Same k_r04_Same rs_r04_Same 60 (Try.f25.body.getD .skip))
theorem in_r04_Same_ok {ct : CT} (h : CTok Try.prog ct) : EntOk Try.prog f_r04_Same (in_r04_Same ct) := inl_ok tt_ok h 60 fn_r04_Same rfl nt_r04_Same rfl cal_r04_Same (by kernel_rfl)
@[match_pattern] abbrev f_l04_puts : Nat := 26
theorem fn_l04_puts : Try.prog.funcs[f_l04_puts]? = some Try.f26 := Try.func26
abbrev n_l04_puts : Nat := 24
theorem nt_l04_puts : Try.f26.ntmps = n_l04_puts := Try.ntmps26
abbrev k_l04_puts : List Nat := [0, 1, 2, 6, 7, 8]
abbrev rs_l04_puts : List ResultVar := [.tmp 6]
theorem cal_l04_puts : Sx.Callee Try.prog f_l04_puts := ⟨_, Try.func26, by kernel_rfl, by kernel_rfl⟩
noncomputable abbrev in_l04_puts (ct : CT) : Ent := .st (inlS tt ct n_l04_puts k_l04_puts rs_l04_puts 60 (Try.f26.body.getD .skip))
theorem in_l04_puts_ok {ct : CT} (h : CTok Try.prog ct) : EntOk Try.prog f_l04_puts (in_l04_puts ct) := inl_ok tt_ok h 60 fn_l04_puts rfl nt_l04_puts rfl cal_l04_puts (by kernel_rfl)
@[match_pattern] abbrev f_l04_make16 : Nat := 27
theorem fn_l04_make16 : Try.prog.funcs[f_l04_make16]? = some Try.f27 := Try.func27
abbrev n_l04_make16 : Nat := 14
theorem nt_l04_make16 : Try.f27.ntmps = n_l04_make16 := Try.ntmps27
abbrev k_l04_make16 : List Nat := [0, 2, 3, 4, 6]
abbrev rs_l04_make16 : List ResultVar := [.tmp 2]
theorem cal_l04_make16 : Sx.Callee Try.prog f_l04_make16 := ⟨_, Try.func27, by kernel_rfl, by kernel_rfl⟩
noncomputable abbrev in_l04_make16 (ct : CT) : Ent := .st (inlS tt ct n_l04_make16 k_l04_make16 rs_l04_make16 60 (Try.f27.body.getD .skip))
theorem in_l04_make16_ok {ct : CT} (h : CTok Try.prog ct) : EntOk Try.prog f_l04_make16 (in_l04_make16 ct) := inl_ok tt_ok h 60 fn_l04_make16 rfl nt_l04_make16 rfl cal_l04_make16 (by kernel_rfl)
@[match_pattern] abbrev f_r01_Wrap : Nat := 28
theorem fn_r01_Wrap : Try.prog.funcs[f_r01_Wrap]? = some Try.f28 := Try.func28
abbrev n_r01_Wrap : Nat := 15
theorem nt_r01_Wrap : Try.f28.ntmps = n_r01_Wrap := Try.ntmps28
abbrev k_r01_Wrap : List Nat := [0, 2, 6, 10]
abbrev rs_r01_Wrap : List ResultVar := [.tmp 2]
theorem cal_r01_Wrap : Sx.Callee Try.prog f_r01_Wrap := ⟨_, Try.func28, by kernel_rfl, by kernel_rfl⟩
noncomputable abbrev in_r01_Wrap (ct : CT) : Ent := .st (inlS tt ct n_r01_Wrap k_r01_Wrap rs_r01_Wrap 60 (Try.f28.body.getD .skip))
theorem in_r01_Wrap_ok {ct : CT} (h : CTok Try.prog ct) : EntOk Try.prog f_r01_Wrap (in_r01_Wrap ct) := inl_ok tt_ok h 60 fn_r01_Wrap rfl nt_r01_Wrap rfl cal_r01_Wrap (by kernel_rfl)
@[match_pattern] abbrev f_code_valid : Nat := 29
theorem fn_code_valid : Try.prog.funcs[f_code_valid]? = some Try.f29 := Try.func29
abbrev n_code_valid : Nat := 16
theorem nt_code_valid : Try.f29.ntmps = n_code_valid := Try.ntmps29
abbrev k_code_valid : List Nat := [0, 1, 2]
abbrev rs_code_valid : List ResultVar := [.tmp 2]
theorem cal_code_valid : Sx.Callee Try.prog f_code_valid := ⟨_, Try.func29, by kernel_rfl, by kernel_rfl⟩
noncomputable abbrev in_code_valid (ct : CT) : Ent := .st (inlS tt ct n_code_valid k_code_valid rs_code_valid 60 (Try.f29.body.getD .skip))
theorem in_code_valid_ok {ct : CT} (h : CTok Try.prog ct) : EntOk Try.prog f_code_valid (in_code_valid ct) := inl_ok tt_ok h 60 fn_code_valid rfl nt_code_valid rfl cal_code_valid (by kernel_rfl)
@[match_pattern] abbrev f_code_put : Nat := 30
theorem fn_code_put : Try.prog.funcs[f_code_put]? = some Try.f30 := Try.func30
abbrev n_code_put : Nat := 31
theorem nt_code_put : Try.f30.ntmps = n_code_put := Try.ntmps30
abbrev k_code_put : List Nat := [0, 1, 2, 6, 7, 15]
abbrev rs_code_put : List ResultVar := [.tmp 6]
theorem cal_code_put : Sx.Callee Try.prog f_code_put := ⟨_, Try.func30, by kernel_rfl, by kernel_rfl⟩
noncomputable abbrev in_code_put (ct : CT) : Ent := .st (inlS tt ct n_code_put k_code_put rs_code_put 60 (Try.f30.body.getD .skip))
theorem in_code_put_ok {ct : CT} (h : CTok Try.prog ct) : EntOk Try.prog f_code_put (in_code_put ct) := inl_ok tt_ok h 60 fn_code_put rfl nt_code_put rfl cal_code_put (by kernel_rfl)
@[match_pattern] abbrev f_r04_Valid : Nat := 31
theorem fn_r04_Valid : Try.prog.funcs[f_r04_Valid]? = some Try.f31 := Try.func31
abbrev n_r04_Valid : Nat := 16
theorem nt_r04_Valid : Try.f31.ntmps = n_r04_Valid := Try.ntmps31
abbrev k_r04_Valid : List Nat := [0, 1, 2]
abbrev rs_r04_Valid : List ResultVar := [.tmp 2]
theorem cal_r04_Valid : Sx.Callee Try.prog f_r04_Valid := ⟨_, Try.func31, by kernel_rfl, by kernel_rfl⟩
noncomputable abbrev in_r04_Valid (ct : CT) : Ent := .st (inlS tt ct n_r04_Valid k_r04_Valid rs_r04_Valid 60 (Try.f31.body.getD .skip))
theorem in_r04_Valid_ok {ct : CT} (h : CTok Try.prog ct) : EntOk Try.prog f_r04_Valid (in_r04_Valid ct) := inl_ok tt_ok h 60 fn_r04_Valid rfl nt_r04_Valid rfl cal_r04_Valid (by kernel_rfl)
@[match_pattern] abbrev f_r04_encode : Nat := 32
theorem fn_r04_encode : Try.prog.funcs[f_r04_encode]? = some Try.f32 := Try.func32
abbrev n_r04_encode : Nat := 28
theorem nt_r04_encode : Try.f32.ntmps = n_r04_encode := Try.ntmps32
abbrev k_r04_encode : List Nat := [0, 1, 4, 5, 7, 12]
abbrev rs_r04_encode : List ResultVar := [.tmp 4]
theorem cal_r04_encode : Sx.Callee Try.prog f_r04_encode := ⟨_, Try.func32, by kernel_rfl, by kernel_rfl⟩
noncomputable abbrev in_r04_encode (ct : CT) : Ent := .st (inlS tt ct n_r04_encode k_r04_encode rs_r04_encode 60 (Try.f32.body.getD .skip))
theorem in_r04_encode_ok {ct : CT} (h : CTok Try.prog ct) : EntOk Try.prog f_r04_encode (in_r04_encode ct) := inl_ok tt_ok h 60 fn_r04_encode rfl nt_r04_encode rfl cal_r04_encode (by kernel_rfl)
@[match_pattern] abbrev f_code_each : Nat := 33
theorem fn_code_each : Try.prog.funcs[f_code_each]? = some Try.f33 := Try.func33
abbrev n_code_each : Nat := 4
theorem nt_code_each : Try.f33.ntmps = n_code_each := Try.ntmps33
abbrev k_code_each : List Nat := [0, 1, 2]
abbrev rs_code_each : List ResultVar := [.tmp 2]
theorem cal_code_each : Sx.Callee Try.prog f_code_each := ⟨_, Try.func33, by kernel_rfl, by kernel_rfl⟩
noncomputable abbrev in_code_each (ct : CT) : Ent := .st (inlS tt ct n_code_each k_code_each rs_code_each 60 (Try.f33.body.getD .skip))
theorem in_code_each_ok {ct : CT} (h : CTok Try.prog ct) : EntOk Try.prog f_code_each (in_code_each ct) := inl_ok tt_ok h 60 fn_code_each rfl nt_code_each rfl cal_code_each (by kernel_rfl)
@[match_pattern] abbrev f_code_each_1 : Nat := 34
theorem fn_code_each_1 : Try.prog.funcs[f_code_each_1]? = some Try.f34 := Try.func34
abbrev n_code_each_1 : Nat := 27
theorem nt_code_each_1 : Try.f34.ntmps = n_code_each_1 := Try.ntmps34
abbrev k_code_each_1 : List Nat := [0, 1, 3, 4, 5, 8, 23]
abbrev rs_code_each_1 : List ResultVar := []
theorem cal_code_each_1 : Sx.Callee Try.prog f_code_each_1 := ⟨_, Try.func34, by kernel_rfl, by kernel_rfl⟩
noncomputable abbrev in_code_each_1 (ct : CT) : Ent := .st (inlS tt ct n_code_each_1 k_code_each_1 rs_code_each_1 60 (Try.f34.body.getD .skip))
theorem in_code_each_1_ok {ct : CT} (h : CTok Try.prog ct) : EntOk Try.prog f_code_each_1 (in_code_each_1 ct) := inl_ok tt_ok h 60 fn_code_each_1 rfl nt_code_each_1 rfl cal_code_each_1 (by kernel_rfl)
end Go.Proofs
