/- Types, slots and numbers of this seat's functions (printed by a program). -/
import Derived.Test.YtoinoeamegoioaaSxC
import Derived.Test.YtoinoeamegoioaaProg

namespace Go.Proofs
open Go Go.Sx
def ti2 : TI := { size := 1, zv := .int .i64 0, agg := false, kd := .int .i64 }
theorem tok2 : TIok Try.prog 2 ti2 := ⟨by kernel_rfl, by kernel_rfl, by kernel_rfl, by kernel_rfl, fun _ h => by cases h⟩
def ti3 : TI := { size := 1, zv := .int .i64 0, agg := false, kd := .int .i64 }
theorem tok3 : TIok Try.prog 3 ti3 := ⟨by kernel_rfl, by kernel_rfl, by kernel_rfl, by kernel_rfl, fun _ h => by cases h⟩
def ti4 : TI := { size := 1, zv := .bool false, agg := false, kd := .bool }
theorem tok4 : TIok Try.prog 4 ti4 := ⟨by kernel_rfl, by kernel_rfl, by kernel_rfl, by kernel_rfl, fun _ h => by cases h⟩
def ti5 : TI := { size := 1, zv := .int .u8 0, agg := false, kd := .int .u8 }
theorem tok5 : TIok Try.prog 5 ti5 := ⟨by kernel_rfl, by kernel_rfl, by kernel_rfl, by kernel_rfl, fun _ h => by cases h⟩
def ti9 : TI := { size := 1, zv := .string ByteArray.empty, agg := false, kd := .str }
theorem tok9 : TIok Try.prog 9 ti9 := ⟨by kernel_rfl, by kernel_rfl, by kernel_rfl, by kernel_rfl, fun _ h => by cases h⟩
def ti21 : TI := { size := 1, zv := .int .i32 0, agg := false, kd := .int .i32 }
theorem tok21 : TIok Try.prog 21 ti21 := ⟨by kernel_rfl, by kernel_rfl, by kernel_rfl, by kernel_rfl, fun _ h => by cases h⟩
def ti31 : TI := { size := 1, zv := .slice none 0 0, agg := false, kd := .slice 21 1 4 }
theorem tok31 : TIok Try.prog 31 ti31 := ⟨by kernel_rfl, by kernel_rfl, by kernel_rfl, by kernel_rfl, fun _ h => by cases h⟩
def ti33 : TI := { size := 1, zv := .int .u32 0, agg := false, kd := .int .u32 }
theorem tok33 : TIok Try.prog 33 ti33 := ⟨by kernel_rfl, by kernel_rfl, by kernel_rfl, by kernel_rfl, fun _ h => by cases h⟩
def ti42 : TI := { size := 1, zv := .slice none 0 0, agg := false, kd := .slice 3 1 8 }
theorem tok42 : TIok Try.prog 42 ti42 := ⟨by kernel_rfl, by kernel_rfl, by kernel_rfl, by kernel_rfl, fun _ h => by cases h⟩
def ti48 : TI := { size := 2, zv := .agg #[.int .u32 0, .int .u32 0], agg := true, kd := .struct [(0, (1, false)), (1, (1, false))], flat := some [some .u32, some .u32] }
theorem tok48 : TIok Try.prog 48 ti48 := ⟨by kernel_rfl, by kernel_rfl, by kernel_rfl, by kernel_rfl, fun _ h => by cases h; exact flatEq_of (by kernel_rfl) (by kernel_rfl) (by kernel_rfl)⟩
def ti50 : TI := { size := 1, zv := .int .u64 0, agg := false, kd := .int .u64 }
theorem tok50 : TIok Try.prog 50 ti50 := ⟨by kernel_rfl, by kernel_rfl, by kernel_rfl, by kernel_rfl, fun _ h => by cases h⟩
def ti61 : TI := { size := 1, zv := .int .u64 0, agg := false, kd := .int .u64 }
theorem tok61 : TIok Try.prog 61 ti61 := ⟨by kernel_rfl, by kernel_rfl, by kernel_rfl, by kernel_rfl, fun _ h => by cases h⟩
abbrev tt : TT := [(2, ti2), (3, ti3), (4, ti4), (5, ti5), (9, ti9), (21, ti21), (31, ti31), (33, ti33), (42, ti42), (48, ti48), (50, ti50), (61, ti61)]
theorem tt_ok : TTok Try.prog tt := ⟨tok2, tok3, tok4, tok5, tok9, tok21, tok31, tok33, tok42, tok48, tok50, tok61, (show Try.prog.follows .mixedOrders = true by kernel_rfl)⟩
@[match_pattern] abbrev f_l02_LongSums : Nat := 3
theorem fn_l02_LongSums : Try.prog.funcs[f_l02_LongSums]? = some Try.f3 := Try.func3
abbrev n_l02_LongSums : Nat := 80
theorem nt_l02_LongSums : Try.f3.ntmps = n_l02_LongSums := Try.ntmps3
abbrev k_l02_LongSums : List Nat := [0, 1, 2, 6, 7, 8, 9, 10, 32, 54]
abbrev rs_l02_LongSums : List ResultVar := [.tmp 6]
theorem cal_l02_LongSums : Sx.Callee Try.prog f_l02_LongSums := ⟨_, Try.func3, by kernel_rfl, by kernel_rfl⟩
noncomputable abbrev in_l02_LongSums (ct : CT) : Ent := .st (inlS tt ct n_l02_LongSums k_l02_LongSums rs_l02_LongSums 60 (Try.f3.body.getD .skip))
theorem in_l02_LongSums_ok {ct : CT} (h : CTok Try.prog ct) : EntOk Try.prog f_l02_LongSums (in_l02_LongSums ct) := inl_ok tt_ok h 60 fn_l02_LongSums rfl nt_l02_LongSums rfl cal_l02_LongSums (by kernel_rfl)
@[match_pattern] abbrev f_l02_LongShifts : Nat := 4
theorem fn_l02_LongShifts : Try.prog.funcs[f_l02_LongShifts]? = some Try.f4 := Try.func4
abbrev n_l02_LongShifts : Nat := 120
theorem nt_l02_LongShifts : Try.f4.ntmps = n_l02_LongShifts := Try.ntmps4
abbrev k_l02_LongShifts : List Nat := [0, 1, 2, 6, 7, 8, 9, 10, 11, 12, 13, 14, 15, 16, 45, 67, 89]
abbrev rs_l02_LongShifts : List ResultVar := [.tmp 6]
theorem cal_l02_LongShifts : Sx.Callee Try.prog f_l02_LongShifts := ⟨_, Try.func4, by kernel_rfl, by kernel_rfl⟩
noncomputable abbrev in_l02_LongShifts (ct : CT) : Ent := .st (inlS tt ct n_l02_LongShifts k_l02_LongShifts rs_l02_LongShifts 60 (Try.f4.body.getD .skip))
theorem in_l02_LongShifts_ok {ct : CT} (h : CTok Try.prog ct) : EntOk Try.prog f_l02_LongShifts (in_l02_LongShifts ct) := inl_ok tt_ok h 60 fn_l02_LongShifts rfl nt_l02_LongShifts rfl cal_l02_LongShifts (by kernel_rfl)
@[match_pattern] abbrev f_l02_LongBack : Nat := 5
theorem fn_l02_LongBack : Try.prog.funcs[f_l02_LongBack]? = some Try.f5 := Try.func5
abbrev n_l02_LongBack : Nat := 93
theorem nt_l02_LongBack : Try.f5.ntmps = n_l02_LongBack := Try.ntmps5
abbrev k_l02_LongBack : List Nat := [0, 1, 2, 6, 7, 8, 9, 10, 11, 12, 13, 14, 15, 16, 19, 45, 59, 60]
abbrev rs_l02_LongBack : List ResultVar := [.tmp 6]
theorem cal_l02_LongBack : Sx.Callee Try.prog f_l02_LongBack := ⟨_, Try.func5, by kernel_rfl, by kernel_rfl⟩
noncomputable abbrev in_l02_LongBack (ct : CT) : Ent := .st (inlS tt ct n_l02_LongBack k_l02_LongBack rs_l02_LongBack 60 (Try.f5.body.getD .skip))
theorem in_l02_LongBack_ok {ct : CT} (h : CTok Try.prog ct) : EntOk Try.prog f_l02_LongBack (in_l02_LongBack ct) := inl_ok tt_ok h 60 fn_l02_LongBack rfl nt_l02_LongBack rfl cal_l02_LongBack (by kernel_rfl)
@[match_pattern] abbrev f_l02_LongChain : Nat := 6
theorem fn_l02_LongChain : Try.prog.funcs[f_l02_LongChain]? = some Try.f6 := Try.func6
abbrev n_l02_LongChain : Nat := 124
theorem nt_l02_LongChain : Try.f6.ntmps = n_l02_LongChain := Try.ntmps6
abbrev k_l02_LongChain : List Nat := [0, 1, 4, 5, 6, 7, 8, 9, 10, 11, 12, 13, 14, 15, 16, 17, 25, 42, 43, 44, 108]
abbrev rs_l02_LongChain : List ResultVar := [.tmp 4]
theorem cal_l02_LongChain : Sx.Callee Try.prog f_l02_LongChain := ⟨_, Try.func6, by kernel_rfl, by kernel_rfl⟩
noncomputable abbrev in_l02_LongChain (ct : CT) : Ent := .st (inlS tt ct n_l02_LongChain k_l02_LongChain rs_l02_LongChain 60 (Try.f6.body.getD .skip))
theorem in_l02_LongChain_ok {ct : CT} (h : CTok Try.prog ct) : EntOk Try.prog f_l02_LongChain (in_l02_LongChain ct) := inl_ok tt_ok h 60 fn_l02_LongChain rfl nt_l02_LongChain rfl cal_l02_LongChain (by kernel_rfl)
@[match_pattern] abbrev f_l02_LongWhole : Nat := 7
theorem fn_l02_LongWhole : Try.prog.funcs[f_l02_LongWhole]? = some Try.f7 := Try.func7
abbrev n_l02_LongWhole : Nat := 95
theorem nt_l02_LongWhole : Try.f7.ntmps = n_l02_LongWhole := Try.ntmps7
abbrev k_l02_LongWhole : List Nat := [0, 1, 2, 6, 7, 8, 10, 11, 12, 13, 14, 15, 16, 17, 24, 29, 41, 42, 43, 44, 65, 87]
abbrev rs_l02_LongWhole : List ResultVar := [.tmp 6]
theorem cal_l02_LongWhole : Sx.Callee Try.prog f_l02_LongWhole := ⟨_, Try.func7, by kernel_rfl, by kernel_rfl⟩
noncomputable abbrev in_l02_LongWhole (ct : CT) : Ent := .st (inlS tt ct n_l02_LongWhole k_l02_LongWhole rs_l02_LongWhole 60 (Try.f7.body.getD .skip))
theorem in_l02_LongWhole_ok {ct : CT} (h : CTok Try.prog ct) : EntOk Try.prog f_l02_LongWhole (in_l02_LongWhole ct) := inl_ok tt_ok h 60 fn_l02_LongWhole rfl nt_l02_LongWhole rfl cal_l02_LongWhole (by kernel_rfl)
@[match_pattern] abbrev f_l02_LongTurns : Nat := 8
theorem fn_l02_LongTurns : Try.prog.funcs[f_l02_LongTurns]? = some Try.f8 := Try.func8
abbrev n_l02_LongTurns : Nat := 187
theorem nt_l02_LongTurns : Try.f8.ntmps = n_l02_LongTurns := Try.ntmps8
abbrev k_l02_LongTurns : List Nat := [0, 1, 2, 6, 7, 8, 9, 10, 11, 12, 13, 14, 15, 16, 17, 18, 19, 20, 21, 22, 23, 24, 25, 26, 33, 34, 35, 80, 130, 139]
abbrev rs_l02_LongTurns : List ResultVar := [.tmp 6]
theorem cal_l02_LongTurns : Sx.Callee Try.prog f_l02_LongTurns := ⟨_, Try.func8, by kernel_rfl, by kernel_rfl⟩
noncomputable abbrev in_l02_LongTurns (ct : CT) : Ent := .st (inlS tt ct n_l02_LongTurns k_l02_LongTurns rs_l02_LongTurns 60 (Try.f8.body.getD .skip))
theorem in_l02_LongTurns_ok {ct : CT} (h : CTok Try.prog ct) : EntOk Try.prog f_l02_LongTurns (in_l02_LongTurns ct) := inl_ok tt_ok h 60 fn_l02_LongTurns rfl nt_l02_LongTurns rfl cal_l02_LongTurns (by kernel_rfl)
@[match_pattern] abbrev f_l02_LongAdds : Nat := 9
theorem fn_l02_LongAdds : Try.prog.funcs[f_l02_LongAdds]? = some Try.f9 := Try.func9
abbrev n_l02_LongAdds : Nat := 102
theorem nt_l02_LongAdds : Try.f9.ntmps = n_l02_LongAdds := Try.ntmps9
abbrev k_l02_LongAdds : List Nat := [0, 1, 2, 6, 7, 8, 9, 10, 11, 12, 13, 14, 36, 58]
abbrev rs_l02_LongAdds : List ResultVar := [.tmp 6]
theorem cal_l02_LongAdds : Sx.Callee Try.prog f_l02_LongAdds := ⟨_, Try.func9, by kernel_rfl, by kernel_rfl⟩
noncomputable abbrev in_l02_LongAdds (ct : CT) : Ent := .st (inlS tt ct n_l02_LongAdds k_l02_LongAdds rs_l02_LongAdds 60 (Try.f9.body.getD .skip))
theorem in_l02_LongAdds_ok {ct : CT} (h : CTok Try.prog ct) : EntOk Try.prog f_l02_LongAdds (in_l02_LongAdds ct) := inl_ok tt_ok h 60 fn_l02_LongAdds rfl nt_l02_LongAdds rfl cal_l02_LongAdds (by kernel_rfl)
@[match_pattern] abbrev f_l02_LongSigned : Nat := 10
theorem fn_l02_LongSigned : Try.prog.funcs[f_l02_LongSigned]? = some Try.f10 := Try.func10
abbrev n_l02_LongSigned : Nat := 161
theorem nt_l02_LongSigned : Try.f10.ntmps = n_l02_LongSigned := Try.ntmps10
abbrev k_l02_LongSigned : List Nat := [0, 1, 2, 3, 8, 9, 10, 11, 13, 14, 15, 17, 19, 21, 22, 23, 24, 25, 26, 94, 116]
abbrev rs_l02_LongSigned : List ResultVar := [.tmp 8]
theorem cal_l02_LongSigned : Sx.Callee Try.prog f_l02_LongSigned := ⟨_, Try.func10, by kernel_rfl, by kernel_rfl⟩
noncomputable abbrev in_l02_LongSigned (ct : CT) : Ent := .st (inlS tt ct n_l02_LongSigned k_l02_LongSigned rs_l02_LongSigned 60 (Try.f10.body.getD .skip))
theorem in_l02_LongSigned_ok {ct : CT} (h : CTok Try.prog ct) : EntOk Try.prog f_l02_LongSigned (in_l02_LongSigned ct) := inl_ok tt_ok h 60 fn_l02_LongSigned rfl nt_l02_LongSigned rfl cal_l02_LongSigned (by kernel_rfl)
@[match_pattern] abbrev f_long_Sum : Nat := 11
theorem fn_long_Sum : Try.prog.funcs[f_long_Sum]? = some Try.f11 := Try.func11
abbrev n_long_Sum : Nat := 25
theorem nt_long_Sum : Try.f11.ntmps = n_long_Sum := Try.ntmps11
abbrev k_long_Sum : List Nat := [0, 1, 2, 6, 7, 8, 9]
abbrev rs_long_Sum : List ResultVar := [.tmp 6, .tmp 7]
theorem cal_long_Sum : Sx.Callee Try.prog f_long_Sum := ⟨_, Try.func11, by kernel_rfl, by kernel_rfl⟩
noncomputable abbrev in_long_Sum (ct : CT) : Ent := .st (inlS tt ct n_long_Sum k_long_Sum rs_long_Sum 60 (Try.f11.body.getD .skip))
theorem in_long_Sum_ok {ct : CT} (h : CTok Try.prog ct) : EntOk Try.prog f_long_Sum (in_long_Sum ct) := inl_ok tt_ok h 60 fn_long_Sum rfl nt_long_Sum rfl cal_long_Sum (by kernel_rfl)
@[match_pattern] abbrev f_r02_Sum : Nat := 12
theorem fn_r02_Sum : Try.prog.funcs[f_r02_Sum]? = some Try.f12 := Try.func12
abbrev n_r02_Sum : Nat := 26
theorem nt_r02_Sum : Try.f12.ntmps = n_r02_Sum := Try.ntmps12
abbrev k_r02_Sum : List Nat := [0, 1, 2, 6, 7, 8, 9]
abbrev rs_r02_Sum : List ResultVar := [.tmp 6, .tmp 7]
theorem cal_r02_Sum : Sx.Callee Try.prog f_r02_Sum := ⟨_, Try.func12, by kernel_rfl, by kernel_rfl⟩
noncomputable abbrev in_r02_Sum (ct : CT) : Ent := .st (inlS tt ct n_r02_Sum k_r02_Sum rs_r02_Sum 60 (Try.f12.body.getD .skip))
theorem in_r02_Sum_ok {ct : CT} (h : CTok Try.prog ct) : EntOk Try.prog f_r02_Sum (in_r02_Sum ct) := inl_ok tt_ok h 60 fn_r02_Sum rfl nt_r02_Sum rfl cal_r02_Sum (by kernel_rfl)
@[match_pattern] abbrev f_long_Diff : Nat := 13
theorem fn_long_Diff : Try.prog.funcs[f_long_Diff]? = some Try.f13 := Try.func13
abbrev n_long_Diff : Nat := 25
theorem nt_long_Diff : Try.f13.ntmps = n_long_Diff := Try.ntmps13
abbrev k_long_Diff : List Nat := [0, 1, 2, 6, 7, 8, 9]
abbrev rs_long_Diff : List ResultVar := [.tmp 6, .tmp 7]
theorem cal_long_Diff : Sx.Callee Try.prog f_long_Diff := ⟨_, Try.func13, by kernel_rfl, by kernel_rfl⟩
noncomputable abbrev in_long_Diff (ct : CT) : Ent := .st (inlS tt ct n_long_Diff k_long_Diff rs_long_Diff 60 (Try.f13.body.getD .skip))
theorem in_long_Diff_ok {ct : CT} (h : CTok Try.prog ct) : EntOk Try.prog f_long_Diff (in_long_Diff ct) := inl_ok tt_ok h 60 fn_long_Diff rfl nt_long_Diff rfl cal_long_Diff (by kernel_rfl)
@[match_pattern] abbrev f_r02_Diff : Nat := 14
theorem fn_r02_Diff : Try.prog.funcs[f_r02_Diff]? = some Try.f14 := Try.func14
abbrev n_r02_Diff : Nat := 49
theorem nt_r02_Diff : Try.f14.ntmps = n_r02_Diff := Try.ntmps14
abbrev k_r02_Diff : List Nat := [0, 1, 2, 6, 7, 8, 9, 10, 11, 12, 13, 23, 38]
abbrev rs_r02_Diff : List ResultVar := [.tmp 6, .tmp 7]
theorem cal_r02_Diff : Sx.Callee Try.prog f_r02_Diff := ⟨_, Try.func14, by kernel_rfl, by kernel_rfl⟩
noncomputable abbrev in_r02_Diff (ct : CT) : Ent := .st (inlS tt ct n_r02_Diff k_r02_Diff rs_r02_Diff 60 (Try.f14.body.getD .skip))
theorem in_r02_Diff_ok {ct : CT} (h : CTok Try.prog ct) : EntOk Try.prog f_r02_Diff (in_r02_Diff ct) := inl_ok tt_ok h 60 fn_r02_Diff rfl nt_r02_Diff rfl cal_r02_Diff (by kernel_rfl)
@[match_pattern] abbrev f_long_Mul : Nat := 15
theorem fn_long_Mul : Try.prog.funcs[f_long_Mul]? = some Try.f15 := Try.func15
abbrev n_long_Mul : Nat := 27
theorem nt_long_Mul : Try.f15.ntmps = n_long_Mul := Try.ntmps15
abbrev k_long_Mul : List Nat := [0, 1, 2, 6, 7, 8]
abbrev rs_long_Mul : List ResultVar := [.tmp 6, .tmp 7]
theorem cal_long_Mul : Sx.Callee Try.prog f_long_Mul := ⟨_, Try.func15, by kernel_rfl, by kernel_rfl⟩
noncomputable abbrev in_long_Mul (ct : CT) : Ent := .st (inlS tt ct n_long_Mul k_long_Mul rs_long_Mul 60 (Try.f15.body.getD .skip))
theorem in_long_Mul_ok {ct : CT} (h : CTok Try.prog ct) : EntOk Try.prog f_long_Mul (in_long_Mul ct) := inl_ok tt_ok h 60 fn_long_Mul rfl nt_long_Mul rfl cal_long_Mul (by kernel_rfl)
@[match_pattern] abbrev f_r02_Mul : Nat := 16
theorem fn_r02_Mul : Try.prog.funcs[f_r02_Mul]? = some Try.f16 := Try.func16
abbrev n_r02_Mul : Nat := 39
theorem nt_r02_Mul : Try.f16.ntmps = n_r02_Mul := Try.ntmps16
abbrev k_r02_Mul : List Nat := [0, 1, 2, 6, 7, 8, 9, 10, 16, 23]
abbrev rs_r02_Mul : List ResultVar := [.tmp 6, .tmp 7]
theorem cal_r02_Mul : Sx.Callee Try.prog f_r02_Mul := ⟨_, Try.func16, by kernel_rfl, by kernel_rfl⟩
noncomputable abbrev in_r02_Mul (ct : CT) : Ent := .st (inlS tt ct n_r02_Mul k_r02_Mul rs_r02_Mul 60 (Try.f16.body.getD .skip))
theorem in_r02_Mul_ok {ct : CT} (h : CTok Try.prog ct) : EntOk Try.prog f_r02_Mul (in_r02_Mul ct) := inl_ok tt_ok h 60 fn_r02_Mul rfl nt_r02_Mul rfl cal_r02_Mul (by kernel_rfl)
@[match_pattern] abbrev f_l02_awake : Nat := 17
theorem fn_l02_awake : Try.prog.funcs[f_l02_awake]? = some Try.f17 := Try.func17
abbrev n_l02_awake : Nat := 158
theorem nt_l02_awake : Try.f17.ntmps = n_l02_awake := Try.ntmps17
abbrev k_l02_awake : List Nat := [0, 1, 2, 3, 4, 5, 6, 7, 8, 9, 10, 11, 12, 13, 14, 15, 16, 17, 18, 19, 20, 21, 22, 23, 24, 25]
abbrev rs_l02_awake : List ResultVar := [.tmp 0]
theorem cal_l02_awake : Sx.Callee Try.prog f_l02_awake := ⟨_, Try.func17, by kernel_rfl, by kernel_rfl⟩
noncomputable abbrev in_l02_awake (ct : CT) : Ent := .st (inlS tt ct n_l02_awake k_l02_awake rs_l02_awake 60 (Try.f17.body.getD .skip))
theorem in_l02_awake_ok {ct : CT} (h : CTok Try.prog ct) : EntOk Try.prog f_l02_awake (in_l02_awake ct) := inl_ok tt_ok h 60 fn_l02_awake rfl nt_l02_awake rfl cal_l02_awake (by kernel_rfl)
@[match_pattern] abbrev f_long_Div : Nat := 18
theorem fn_long_Div : Try.prog.funcs[f_long_Div]? = some Try.f18 := Try.func18
abbrev n_long_Div : Nat := 30
theorem nt_long_Div : Try.f18.ntmps = n_long_Div := Try.ntmps18
abbrev k_long_Div : List Nat := [0, 1, 2, 6, 7, 8, 9, 10, 15]
abbrev rs_long_Div : List ResultVar := [.tmp 6, .tmp 7, .tmp 8]
theorem cal_long_Div : Sx.Callee Try.prog f_long_Div := ⟨_, Try.func18, by kernel_rfl, by kernel_rfl⟩
noncomputable abbrev in_long_Div (ct : CT) : Ent := .st (inlS tt ct n_long_Div k_long_Div rs_long_Div 60 (Try.f18.body.getD .skip))
theorem in_long_Div_ok {ct : CT} (h : CTok Try.prog ct) : EntOk Try.prog f_long_Div (in_long_Div ct) := inl_ok tt_ok h 60 fn_long_Div rfl nt_long_Div rfl cal_long_Div (by kernel_rfl)
@[match_pattern] abbrev f_r02_Div : Nat := 19
theorem fn_r02_Div : Try.prog.funcs[f_r02_Div]? = some Try.f19 := Try.func19
abbrev n_r02_Div : Nat := 49
theorem nt_r02_Div : Try.f19.ntmps = n_r02_Div := Try.ntmps19
abbrev k_r02_Div : List Nat := [0, 1, 2, 6, 7, 8, 9, 10, 11, 12, 17, 23, 36]
abbrev rs_r02_Div : List ResultVar := [.tmp 6, .tmp 7, .tmp 8]
theorem cal_r02_Div : Sx.Callee Try.prog f_r02_Div := ⟨_, Try.func19, by kernel_rfl, by kernel_rfl⟩
noncomputable abbrev in_r02_Div (ct : CT) : Ent := .st (inlS tt ct n_r02_Div k_r02_Div rs_r02_Div 60 (Try.f19.body.getD .skip))
theorem in_r02_Div_ok {ct : CT} (h : CTok Try.prog ct) : EntOk Try.prog f_r02_Div (in_r02_Div ct) := inl_ok tt_ok h 60 fn_r02_Div rfl nt_r02_Div rfl cal_r02_Div (by kernel_rfl)
@[match_pattern] abbrev f_long_Shl : Nat := 20
theorem fn_long_Shl : Try.prog.funcs[f_long_Shl]? = some Try.f20 := Try.func20
abbrev n_long_Shl : Nat := 14
theorem nt_long_Shl : Try.f20.ntmps = n_long_Shl := Try.ntmps20
abbrev k_long_Shl : List Nat := [0, 1, 2, 6, 7]
abbrev rs_long_Shl : List ResultVar := [.tmp 6, .tmp 7]
theorem cal_long_Shl : Sx.Callee Try.prog f_long_Shl := ⟨_, Try.func20, by kernel_rfl, by kernel_rfl⟩
noncomputable abbrev in_long_Shl (ct : CT) : Ent := .st (inlS tt ct n_long_Shl k_long_Shl rs_long_Shl 60 (Try.f20.body.getD .skip))
theorem in_long_Shl_ok {ct : CT} (h : CTok Try.prog ct) : EntOk Try.prog f_long_Shl (in_long_Shl ct) := inl_ok tt_ok h 60 fn_long_Shl rfl nt_long_Shl rfl cal_long_Shl (by kernel_rfl)
@[match_pattern] abbrev f_r02_Shl : Nat := 21
theorem fn_r02_Shl : Try.prog.funcs[f_r02_Shl]? = some Try.f21 := Try.func21
abbrev n_r02_Shl : Nat := 24
theorem nt_r02_Shl : Try.f21.ntmps = n_r02_Shl := Try.ntmps21
abbrev k_r02_Shl : List Nat := [0, 1, 2, 6, 7, 8, 11]
abbrev rs_r02_Shl : List ResultVar := [.tmp 6, .tmp 7]
theorem cal_r02_Shl : Sx.Callee Try.prog f_r02_Shl := ⟨_, Try.func21, by kernel_rfl, by kernel_rfl⟩
noncomputable abbrev in_r02_Shl (ct : CT) : Ent := .st (inlS tt ct n_r02_Shl k_r02_Shl rs_r02_Shl 60 (Try.f21.body.getD .skip))
theorem in_r02_Shl_ok {ct : CT} (h : CTok Try.prog ct) : EntOk Try.prog f_r02_Shl (in_r02_Shl ct) := inl_ok tt_ok h 60 fn_r02_Shl rfl nt_r02_Shl rfl cal_r02_Shl (by kernel_rfl)
@[match_pattern] abbrev f_long_Shr : Nat := 22
theorem fn_long_Shr : Try.prog.funcs[f_long_Shr]? = some Try.f22 := Try.func22
abbrev n_long_Shr : Nat := 14
theorem nt_long_Shr : Try.f22.ntmps = n_long_Shr := Try.ntmps22
abbrev k_long_Shr : List Nat := [0, 1, 2, 6, 7]
abbrev rs_long_Shr : List ResultVar := [.tmp 6, .tmp 7]
theorem cal_long_Shr : Sx.Callee Try.prog f_long_Shr := ⟨_, Try.func22, by kernel_rfl, by kernel_rfl⟩
noncomputable abbrev in_long_Shr (ct : CT) : Ent := .st (inlS tt ct n_long_Shr k_long_Shr rs_long_Shr 60 (Try.f22.body.getD .skip))
theorem in_long_Shr_ok {ct : CT} (h : CTok Try.prog ct) : EntOk Try.prog f_long_Shr (in_long_Shr ct) := inl_ok tt_ok h 60 fn_long_Shr rfl nt_long_Shr rfl cal_long_Shr (by kernel_rfl)
@[match_pattern] abbrev f_r02_Shr : Nat := 23
theorem fn_r02_Shr : Try.prog.funcs[f_r02_Shr]? = some Try.f23 := Try.func23
abbrev n_r02_Shr : Nat := 24
theorem nt_r02_Shr : Try.f23.ntmps = n_r02_Shr := Try.ntmps23
abbrev k_r02_Shr : List Nat := [0, 1, 2, 6, 7, 8, 11]
abbrev rs_r02_Shr : List ResultVar := [.tmp 6, .tmp 7]
theorem cal_r02_Shr : Sx.Callee Try.prog f_r02_Shr := ⟨_, Try.func23, by kernel_rfl, by kernel_rfl⟩
noncomputable abbrev in_r02_Shr (ct : CT) : Ent := .st (inlS tt ct n_r02_Shr k_r02_Shr rs_r02_Shr 60 (Try.f23.body.getD .skip))
theorem in_r02_Shr_ok {ct : CT} (h : CTok Try.prog ct) : EntOk Try.prog f_r02_Shr (in_r02_Shr ct) := inl_ok tt_ok h 60 fn_r02_Shr rfl nt_r02_Shr rfl cal_r02_Shr (by kernel_rfl)
@[match_pattern] abbrev f_long_Norm : Nat := 24
theorem fn_long_Norm : Try.prog.funcs[f_long_Norm]? = some Try.f24 := Try.func24
abbrev n_long_Norm : Nat := 30
theorem nt_long_Norm : Try.f24.ntmps = n_long_Norm := Try.ntmps24
abbrev k_long_Norm : List Nat := [0, 1, 4, 5, 6, 7, 15]
abbrev rs_long_Norm : List ResultVar := [.tmp 4, .tmp 5, .tmp 6]
theorem cal_long_Norm : Sx.Callee Try.prog f_long_Norm := ⟨_, Try.func24, by kernel_rfl, by kernel_rfl⟩
noncomputable abbrev in_long_Norm (ct : CT) : Ent := .st (inlS tt ct n_long_Norm k_long_Norm rs_long_Norm 60 (Try.f24.body.getD .skip))
theorem in_long_Norm_ok {ct : CT} (h : CTok Try.prog ct) : EntOk Try.prog f_long_Norm (in_long_Norm ct) := inl_ok tt_ok h 60 fn_long_Norm rfl nt_long_Norm rfl cal_long_Norm (by kernel_rfl)
@[match_pattern] abbrev f_r02_Norm : Nat := 25
theorem fn_r02_Norm : Try.prog.funcs[f_r02_Norm]? = some Try.f25 := Try.func25
abbrev n_r02_Norm : Nat := 25
theorem nt_r02_Norm : Try.f25.ntmps = n_r02_Norm := Try.ntmps25
abbrev k_r02_Norm : List Nat := [0, 1, 4, 5, 6, 7, 13]
abbrev rs_r02_Norm : List ResultVar := [.tmp 4, .tmp 5, .tmp 6]
theorem cal_r02_Norm : Sx.Callee Try.prog f_r02_Norm := ⟨_, Try.func25, by kernel_rfl, by kernel_rfl⟩
noncomputable abbrev in_r02_Norm (ct : CT) : Ent := .st (inlS tt ct n_r02_Norm k_r02_Norm rs_r02_Norm 60 (Try.f25.body.getD .skip))
theorem in_r02_Norm_ok {ct : CT} (h : CTok Try.prog ct) : EntOk Try.prog f_r02_Norm (in_r02_Norm ct) := inl_ok tt_ok h 60 fn_r02_Norm rfl nt_r02_Norm rfl cal_r02_Norm (by kernel_rfl)
@[match_pattern] abbrev f_l02_below : Nat := 26
theorem fn_l02_below : Try.prog.funcs[f_l02_below]? = some Try.f26 := Try.func26
abbrev n_l02_below : Nat := 10
theorem nt_l02_below : Try.f26.ntmps = n_l02_below := Try.ntmps26
abbrev k_l02_below : List Nat := [0, 1, 4]
abbrev rs_l02_below : List ResultVar := [.tmp 4]
theorem cal_l02_below : Sx.Callee Try.prog f_l02_below := ⟨_, Try.func26, by kernel_rfl, by kernel_rfl⟩
noncomputable abbrev in_l02_below (ct : CT) : Ent := .st (inlS tt ct n_l02_below k_l02_below rs_l02_below 60 (Try.f26.body.getD .skip))
theorem in_l02_below_ok {ct : CT} (h : CTok Try.prog ct) : EntOk Try.prog f_l02_below (in_l02_below ct) := inl_ok tt_ok h 60 fn_l02_below rfl nt_l02_below rfl cal_l02_below (by kernel_rfl)
@[match_pattern] abbrev f_long_Add : Nat := 27
theorem fn_long_Add : Try.prog.funcs[f_long_Add]? = some Try.f27 := Try.func27
abbrev n_long_Add : Nat := 20
theorem nt_long_Add : Try.f27.ntmps = n_long_Add := Try.ntmps27
abbrev k_long_Add : List Nat := [0, 1, 2, 6, 7]
abbrev rs_long_Add : List ResultVar := [.tmp 6, .tmp 7]
theorem cal_long_Add : Sx.Callee Try.prog f_long_Add := ⟨_, Try.func27, by kernel_rfl, by kernel_rfl⟩
noncomputable abbrev in_long_Add (ct : CT) : Ent := .st (inlS tt ct n_long_Add k_long_Add rs_long_Add 60 (Try.f27.body.getD .skip))
theorem in_long_Add_ok {ct : CT} (h : CTok Try.prog ct) : EntOk Try.prog f_long_Add (in_long_Add ct) := inl_ok tt_ok h 60 fn_long_Add rfl nt_long_Add rfl cal_long_Add (by kernel_rfl)
@[match_pattern] abbrev f_r02_Add : Nat := 28
theorem fn_r02_Add : Try.prog.funcs[f_r02_Add]? = some Try.f28 := Try.func28
abbrev n_r02_Add : Nat := 21
theorem nt_r02_Add : Try.f28.ntmps = n_r02_Add := Try.ntmps28
abbrev k_r02_Add : List Nat := [0, 1, 2, 6, 7]
abbrev rs_r02_Add : List ResultVar := [.tmp 6, .tmp 7]
theorem cal_r02_Add : Sx.Callee Try.prog f_r02_Add := ⟨_, Try.func28, by kernel_rfl, by kernel_rfl⟩
noncomputable abbrev in_r02_Add (ct : CT) : Ent := .st (inlS tt ct n_r02_Add k_r02_Add rs_r02_Add 60 (Try.f28.body.getD .skip))
theorem in_r02_Add_ok {ct : CT} (h : CTok Try.prog ct) : EntOk Try.prog f_r02_Add (in_r02_Add ct) := inl_ok tt_ok h 60 fn_r02_Add rfl nt_r02_Add rfl cal_r02_Add (by kernel_rfl)
@[match_pattern] abbrev f_long_Sub : Nat := 29
theorem fn_long_Sub : Try.prog.funcs[f_long_Sub]? = some Try.f29 := Try.func29
abbrev n_long_Sub : Nat := 20
theorem nt_long_Sub : Try.f29.ntmps = n_long_Sub := Try.ntmps29
abbrev k_long_Sub : List Nat := [0, 1, 2, 6, 7]
abbrev rs_long_Sub : List ResultVar := [.tmp 6, .tmp 7]
theorem cal_long_Sub : Sx.Callee Try.prog f_long_Sub := ⟨_, Try.func29, by kernel_rfl, by kernel_rfl⟩
noncomputable abbrev in_long_Sub (ct : CT) : Ent := .st (inlS tt ct n_long_Sub k_long_Sub rs_long_Sub 60 (Try.f29.body.getD .skip))
theorem in_long_Sub_ok {ct : CT} (h : CTok Try.prog ct) : EntOk Try.prog f_long_Sub (in_long_Sub ct) := inl_ok tt_ok h 60 fn_long_Sub rfl nt_long_Sub rfl cal_long_Sub (by kernel_rfl)
@[match_pattern] abbrev f_r02_Sub : Nat := 30
theorem fn_r02_Sub : Try.prog.funcs[f_r02_Sub]? = some Try.f30 := Try.func30
abbrev n_r02_Sub : Nat := 21
theorem nt_r02_Sub : Try.f30.ntmps = n_r02_Sub := Try.ntmps30
abbrev k_r02_Sub : List Nat := [0, 1, 2, 6, 7]
abbrev rs_r02_Sub : List ResultVar := [.tmp 6, .tmp 7]
theorem cal_r02_Sub : Sx.Callee Try.prog f_r02_Sub := ⟨_, Try.func30, by kernel_rfl, by kernel_rfl⟩
noncomputable abbrev in_r02_Sub (ct : CT) : Ent := .st (inlS tt ct n_r02_Sub k_r02_Sub rs_r02_Sub 60 (Try.f30.body.getD .skip))
theorem in_r02_Sub_ok {ct : CT} (h : CTok Try.prog ct) : EntOk Try.prog f_r02_Sub (in_r02_Sub ct) := inl_ok tt_ok h 60 fn_r02_Sub rfl nt_r02_Sub rfl cal_r02_Sub (by kernel_rfl)
@[match_pattern] abbrev f_long_Xdble : Nat := 31
theorem fn_long_Xdble : Try.prog.funcs[f_long_Xdble]? = some Try.f31 := Try.func31
abbrev n_long_Xdble : Nat := 7
theorem nt_long_Xdble : Try.f31.ntmps = n_long_Xdble := Try.ntmps31
abbrev k_long_Xdble : List Nat := [0, 2, 3]
abbrev rs_long_Xdble : List ResultVar := [.tmp 2, .tmp 3]
theorem cal_long_Xdble : Sx.Callee Try.prog f_long_Xdble := ⟨_, Try.func31, by kernel_rfl, by kernel_rfl⟩
noncomputable abbrev in_long_Xdble (ct : CT) : Ent := .st (inlS tt ct n_long_Xdble k_long_Xdble rs_long_Xdble 60 (Try.f31.body.getD .skip))
theorem in_long_Xdble_ok {ct : CT} (h : CTok Try.prog ct) : EntOk Try.prog f_long_Xdble (in_long_Xdble ct) := inl_ok tt_ok h 60 fn_long_Xdble rfl nt_long_Xdble rfl cal_long_Xdble (by kernel_rfl)
@[match_pattern] abbrev f_r02_Xdble : Nat := 32
theorem fn_r02_Xdble : Try.prog.funcs[f_r02_Xdble]? = some Try.f32 := Try.func32
abbrev n_r02_Xdble : Nat := 8
theorem nt_r02_Xdble : Try.f32.ntmps = n_r02_Xdble := Try.ntmps32
abbrev k_r02_Xdble : List Nat := [0, 2, 3, 5]
abbrev rs_r02_Xdble : List ResultVar := [.tmp 2, .tmp 3]
theorem cal_r02_Xdble : Sx.Callee Try.prog f_r02_Xdble := ⟨_, Try.func32, by kernel_rfl, by kernel_rfl⟩
noncomputable abbrev in_r02_Xdble (ct : CT) : Ent := .st (inlS tt ct n_r02_Xdble k_r02_Xdble rs_r02_Xdble 60 (Try.f32.body.getD .skip))
theorem in_r02_Xdble_ok {ct : CT} (h : CTok Try.prog ct) : EntOk Try.prog f_r02_Xdble (in_r02_Xdble ct) := inl_ok tt_ok h 60 fn_r02_Xdble rfl nt_r02_Xdble rfl cal_r02_Xdble (by kernel_rfl)
@[match_pattern] abbrev f_long_Csngl : Nat := 33
theorem fn_long_Csngl : Try.prog.funcs[f_long_Csngl]? = some Try.f33 := Try.func33
abbrev n_long_Csngl : Nat := 17
theorem nt_long_Csngl : Try.f33.ntmps = n_long_Csngl := Try.ntmps33
abbrev k_long_Csngl : List Nat := [0, 1, 4, 5, 7]
abbrev rs_long_Csngl : List ResultVar := [.tmp 4, .tmp 5]
theorem cal_long_Csngl : Sx.Callee Try.prog f_long_Csngl := ⟨_, Try.func33, by kernel_rfl, by kernel_rfl⟩
noncomputable abbrev in_long_Csngl (ct : CT) : Ent := .st (inlS tt ct n_long_Csngl k_long_Csngl rs_long_Csngl 60 (Try.f33.body.getD .skip))
theorem in_long_Csngl_ok {ct : CT} (h : CTok Try.prog ct) : EntOk Try.prog f_long_Csngl (in_long_Csngl ct) := inl_ok tt_ok h 60 fn_long_Csngl rfl nt_long_Csngl rfl cal_long_Csngl (by kernel_rfl)
@[match_pattern] abbrev f_r02_Csngl : Nat := 34
theorem fn_r02_Csngl : Try.prog.funcs[f_r02_Csngl]? = some Try.f34 := Try.func34
abbrev n_r02_Csngl : Nat := 17
theorem nt_r02_Csngl : Try.f34.ntmps = n_r02_Csngl := Try.ntmps34
abbrev k_r02_Csngl : List Nat := [0, 1, 4, 5, 7]
abbrev rs_r02_Csngl : List ResultVar := [.tmp 4, .tmp 5]
theorem cal_r02_Csngl : Sx.Callee Try.prog f_r02_Csngl := ⟨_, Try.func34, by kernel_rfl, by kernel_rfl⟩
noncomputable abbrev in_r02_Csngl (ct : CT) : Ent := .st (inlS tt ct n_r02_Csngl k_r02_Csngl rs_r02_Csngl 60 (Try.f34.body.getD .skip))
theorem in_r02_Csngl_ok {ct : CT} (h : CTok Try.prog ct) : EntOk Try.prog f_r02_Csngl (in_r02_Csngl ct) := inl_ok tt_ok h 60 fn_r02_Csngl rfl nt_r02_Csngl rfl cal_r02_Csngl (by kernel_rfl)
@[match_pattern] abbrev f_math_bits_Add32 : Nat := 35
theorem fn_math_bits_Add32 : Try.prog.funcs[f_math_bits_Add32]? = some Try.f35 := Try.func35
abbrev n_math_bits_Add32 : Nat := 22
theorem nt_math_bits_Add32 : Try.f35.ntmps = n_math_bits_Add32 := Try.ntmps35
abbrev k_math_bits_Add32 : List Nat := [0, 1, 2, 6, 7, 8]
abbrev rs_math_bits_Add32 : List ResultVar := [.tmp 6, .tmp 7]
theorem cal_math_bits_Add32 : Sx.Callee Try.prog f_math_bits_Add32 := ⟨_, Try.func35, by kernel_rfl, by kernel_rfl⟩
noncomputable abbrev in_math_bits_Add32 (ct : CT) : Ent := .st (inlS tt ct n_math_bits_Add32 k_math_bits_Add32 rs_math_bits_Add32 60 (Try.f35.body.getD .skip))
theorem in_math_bits_Add32_ok {ct : CT} (h : CTok Try.prog ct) : EntOk Try.prog f_math_bits_Add32 (in_math_bits_Add32 ct) := inl_ok tt_ok h 60 fn_math_bits_Add32 rfl nt_math_bits_Add32 rfl cal_math_bits_Add32 (by kernel_rfl)
@[match_pattern] abbrev f_r02_plus : Nat := 36
theorem fn_r02_plus : Try.prog.funcs[f_r02_plus]? = some Try.f36 := Try.func36
abbrev n_r02_plus : Nat := 37
theorem nt_r02_plus : Try.f36.ntmps = n_r02_plus := Try.ntmps36
abbrev k_r02_plus : List Nat := [0, 1, 2, 6, 7, 8, 9, 10, 14]
abbrev rs_r02_plus : List ResultVar := [.tmp 6, .tmp 7]
theorem cal_r02_plus : Sx.Callee Try.prog f_r02_plus := ⟨_, Try.func36, by kernel_rfl, by kernel_rfl⟩
noncomputable abbrev in_r02_plus (ct : CT) : Ent := .st (inlS tt ct n_r02_plus k_r02_plus rs_r02_plus 60 (Try.f36.body.getD .skip))
theorem in_r02_plus_ok {ct : CT} (h : CTok Try.prog ct) : EntOk Try.prog f_r02_plus (in_r02_plus ct) := inl_ok tt_ok h 60 fn_r02_plus rfl nt_r02_plus rfl cal_r02_plus (by kernel_rfl)
@[match_pattern] abbrev f_r02_bits : Nat := 37
theorem fn_r02_bits : Try.prog.funcs[f_r02_bits]? = some Try.f37 := Try.func37
abbrev n_r02_bits : Nat := 20
theorem nt_r02_bits : Try.f37.ntmps = n_r02_bits := Try.ntmps37
abbrev k_r02_bits : List Nat := [0, 2, 3, 4, 5, 9]
abbrev rs_r02_bits : List ResultVar := [.tmp 2]
theorem cal_r02_bits : Sx.Callee Try.prog f_r02_bits := ⟨_, Try.func37, by kernel_rfl, by kernel_rfl⟩
noncomputable abbrev in_r02_bits (ct : CT) : Ent := .st (inlS tt ct n_r02_bits k_r02_bits rs_r02_bits 60 (Try.f37.body.getD .skip))
theorem in_r02_bits_ok {ct : CT} (h : CTok Try.prog ct) : EntOk Try.prog f_r02_bits (in_r02_bits ct) := inl_ok tt_ok h 60 fn_r02_bits rfl nt_r02_bits rfl cal_r02_bits (by kernel_rfl)
@[match_pattern] abbrev f_r02_word : Nat := 38
theorem fn_r02_word : Try.prog.funcs[f_r02_word]? = some Try.f38 := Try.func38
abbrev n_r02_word : Nat := 21
theorem nt_r02_word : Try.f38.ntmps = n_r02_word := Try.ntmps38
abbrev k_r02_word : List Nat := [0, 2, 3, 4, 9]
abbrev rs_r02_word : List ResultVar := [.tmp 2]
theorem cal_r02_word : Sx.Callee Try.prog f_r02_word := ⟨_, Try.func38, by kernel_rfl, by kernel_rfl⟩
noncomputable abbrev in_r02_word (ct : CT) : Ent := .st (inlS tt ct n_r02_word k_r02_word rs_r02_word 60 (Try.f38.body.getD .skip))
theorem in_r02_word_ok {ct : CT} (h : CTok Try.prog ct) : EntOk Try.prog f_r02_word (in_r02_word ct) := inl_ok tt_ok h 60 fn_r02_word rfl nt_r02_word rfl cal_r02_word (by kernel_rfl)
@[match_pattern] abbrev f_math_bits_Sub32 : Nat := 39
theorem fn_math_bits_Sub32 : Try.prog.funcs[f_math_bits_Sub32]? = some Try.f39 := Try.func39
abbrev n_math_bits_Sub32 : Nat := 25
theorem nt_math_bits_Sub32 : Try.f39.ntmps = n_math_bits_Sub32 := Try.ntmps39
abbrev k_math_bits_Sub32 : List Nat := [0, 1, 2, 6, 7]
abbrev rs_math_bits_Sub32 : List ResultVar := [.tmp 6, .tmp 7]
theorem cal_math_bits_Sub32 : Sx.Callee Try.prog f_math_bits_Sub32 := ⟨_, Try.func39, by kernel_rfl, by kernel_rfl⟩
noncomputable abbrev in_math_bits_Sub32 (ct : CT) : Ent := .st (inlS tt ct n_math_bits_Sub32 k_math_bits_Sub32 rs_math_bits_Sub32 60 (Try.f39.body.getD .skip))
theorem in_math_bits_Sub32_ok {ct : CT} (h : CTok Try.prog ct) : EntOk Try.prog f_math_bits_Sub32 (in_math_bits_Sub32 ct) := inl_ok tt_ok h 60 fn_math_bits_Sub32 rfl nt_math_bits_Sub32 rfl cal_math_bits_Sub32 (by kernel_rfl)
@[match_pattern] abbrev f_long_split : Nat := 40
theorem fn_long_split : Try.prog.funcs[f_long_split]? = some Try.f40 := Try.func40
abbrev n_long_split : Nat := 9
theorem nt_long_split : Try.f40.ntmps = n_long_split := Try.ntmps40
abbrev k_long_split : List Nat := [0, 2]
abbrev rs_long_split : List ResultVar := [.cell 2 48]
theorem cal_long_split : Sx.Callee Try.prog f_long_split := ⟨_, Try.func40, by kernel_rfl, by kernel_rfl⟩
noncomputable abbrev in_long_split (ct : CT) : Ent := .st (inlS tt ct n_long_split k_long_split rs_long_split 60 (Try.f40.body.getD .skip))
theorem in_long_split_ok {ct : CT} (h : CTok Try.prog ct) : EntOk Try.prog f_long_split (in_long_split ct) := inl_ok tt_ok h 60 fn_long_split rfl nt_long_split rfl cal_long_split (by kernel_rfl)
@[match_pattern] abbrev f_r02_double : Nat := 41
theorem fn_r02_double : Try.prog.funcs[f_r02_double]? = some Try.f41 := Try.func41
abbrev n_r02_double : Nat := 10
theorem nt_r02_double : Try.f41.ntmps = n_r02_double := Try.ntmps41
abbrev k_r02_double : List Nat := [0, 1, 4]
abbrev rs_r02_double : List ResultVar := [.tmp 4]
theorem cal_r02_double : Sx.Callee Try.prog f_r02_double := ⟨_, Try.func41, by kernel_rfl, by kernel_rfl⟩
noncomputable abbrev in_r02_double (ct : CT) : Ent := .st (inlS tt ct n_r02_double k_r02_double rs_r02_double 60 (Try.f41.body.getD .skip))
theorem in_r02_double_ok {ct : CT} (h : CTok Try.prog ct) : EntOk Try.prog f_r02_double (in_r02_double ct) := inl_ok tt_ok h 60 fn_r02_double rfl nt_r02_double rfl cal_r02_double (by kernel_rfl)
@[match_pattern] abbrev f_r02_left : Nat := 42
theorem fn_r02_left : Try.prog.funcs[f_r02_left]? = some Try.f42 := Try.func42
abbrev n_r02_left : Nat := 23
theorem nt_r02_left : Try.f42.ntmps = n_r02_left := Try.ntmps42
abbrev k_r02_left : List Nat := [0, 1, 4, 5, 6, 10]
abbrev rs_r02_left : List ResultVar := [.tmp 4]
theorem cal_r02_left : Sx.Callee Try.prog f_r02_left := ⟨_, Try.func42, by kernel_rfl, by kernel_rfl⟩
noncomputable abbrev in_r02_left (ct : CT) : Ent := .st (inlS tt ct n_r02_left k_r02_left rs_r02_left 60 (Try.f42.body.getD .skip))
theorem in_r02_left_ok {ct : CT} (h : CTok Try.prog ct) : EntOk Try.prog f_r02_left (in_r02_left ct) := inl_ok tt_ok h 60 fn_r02_left rfl nt_r02_left rfl cal_r02_left (by kernel_rfl)
@[match_pattern] abbrev f_math_bits_Div32 : Nat := 43
theorem fn_math_bits_Div32 : Try.prog.funcs[f_math_bits_Div32]? = some Try.f43 := Try.func43
abbrev n_math_bits_Div32 : Nat := 33
theorem nt_math_bits_Div32 : Try.f43.ntmps = n_math_bits_Div32 := Try.ntmps43
abbrev k_math_bits_Div32 : List Nat := [0, 1, 2, 6, 7, 8, 15]
abbrev rs_math_bits_Div32 : List ResultVar := [.tmp 6, .tmp 7]
theorem cal_math_bits_Div32 : Sx.Callee Try.prog f_math_bits_Div32 := ⟨_, Try.func43, by kernel_rfl, by kernel_rfl⟩
noncomputable abbrev in_math_bits_Div32 (ct : CT) : Ent := .st (inlS tt ct n_math_bits_Div32 k_math_bits_Div32 rs_math_bits_Div32 60 (Try.f43.body.getD .skip))
theorem in_math_bits_Div32_ok {ct : CT} (h : CTok Try.prog ct) : EntOk Try.prog f_math_bits_Div32 (in_math_bits_Div32 ct) := inl_ok tt_ok h 60 fn_math_bits_Div32 rfl nt_math_bits_Div32 rfl cal_math_bits_Div32 (by kernel_rfl)
@[match_pattern] abbrev f_r02_Value : Nat := 44
theorem fn_r02_Value : Try.prog.funcs[f_r02_Value]? = some Try.f44 := Try.func44
abbrev n_r02_Value : Nat := 11
theorem nt_r02_Value : Try.f44.ntmps = n_r02_Value := Try.ntmps44
abbrev k_r02_Value : List Nat := [0, 2, 3, 7]
abbrev rs_r02_Value : List ResultVar := [.tmp 2]
theorem cal_r02_Value : Sx.Callee Try.prog f_r02_Value := ⟨_, Try.func44, by kernel_rfl, by kernel_rfl⟩
noncomputable abbrev in_r02_Value (ct : CT) : Ent := .st (inlS tt ct n_r02_Value k_r02_Value rs_r02_Value 60 (Try.f44.body.getD .skip))
theorem in_r02_Value_ok {ct : CT} (h : CTok Try.prog ct) : EntOk Try.prog f_r02_Value (in_r02_Value ct) := inl_ok tt_ok h 60 fn_r02_Value rfl nt_r02_Value rfl cal_r02_Value (by kernel_rfl)
@[match_pattern] abbrev f_r02_Word : Nat := 45
theorem fn_r02_Word : Try.prog.funcs[f_r02_Word]? = some Try.f45 := Try.func45
abbrev n_r02_Word : Nat := 9
theorem nt_r02_Word : Try.f45.ntmps = n_r02_Word := Try.ntmps45
abbrev k_r02_Word : List Nat := [0, 2, 4]
abbrev rs_r02_Word : List ResultVar := [.tmp 2]
theorem cal_r02_Word : Sx.Callee Try.prog f_r02_Word := ⟨_, Try.func45, by kernel_rfl, by kernel_rfl⟩
noncomputable abbrev in_r02_Word (ct : CT) : Ent := .st (inlS tt ct n_r02_Word k_r02_Word rs_r02_Word 60 (Try.f45.body.getD .skip))
theorem in_r02_Word_ok {ct : CT} (h : CTok Try.prog ct) : EntOk Try.prog f_r02_Word (in_r02_Word ct) := inl_ok tt_ok h 60 fn_r02_Word rfl nt_r02_Word rfl cal_r02_Word (by kernel_rfl)
@[match_pattern] abbrev f_long_shifted : Nat := 46
theorem fn_long_shifted : Try.prog.funcs[f_long_shifted]? = some Try.f46 := Try.func46
abbrev n_long_shifted : Nat := 27
theorem nt_long_shifted : Try.f46.ntmps = n_long_shifted := Try.ntmps46
abbrev k_long_shifted : List Nat := [0, 1, 2, 3, 8, 9, 10]
abbrev rs_long_shifted : List ResultVar := [.tmp 8, .tmp 9]
theorem cal_long_shifted : Sx.Callee Try.prog f_long_shifted := ⟨_, Try.func46, by kernel_rfl, by kernel_rfl⟩
noncomputable abbrev in_long_shifted (ct : CT) : Ent := .st (inlS tt ct n_long_shifted k_long_shifted rs_long_shifted 60 (Try.f46.body.getD .skip))
theorem in_long_shifted_ok {ct : CT} (h : CTok Try.prog ct) : EntOk Try.prog f_long_shifted (in_long_shifted ct) := inl_ok tt_ok h 60 fn_long_shifted rfl nt_long_shifted rfl cal_long_shifted (by kernel_rfl)
@[match_pattern] abbrev f_long_double_left : Nat := 47
theorem fn_long_double_left : Try.prog.funcs[f_long_double_left]? = some Try.f47 := Try.func47
abbrev n_long_double_left : Nat := 10
theorem nt_long_double_left : Try.f47.ntmps = n_long_double_left := Try.ntmps47
abbrev k_long_double_left : List Nat := [0, 1, 2, 4]
abbrev rs_long_double_left : List ResultVar := [.cell 4 48]
theorem cal_long_double_left : Sx.Callee Try.prog f_long_double_left := ⟨_, Try.func47, by kernel_rfl, by kernel_rfl⟩
noncomputable abbrev in_long_double_left (ct : CT) : Ent := .st (inlS tt ct n_long_double_left k_long_double_left rs_long_double_left 60 (Try.f47.body.getD .skip))
theorem in_long_double_left_ok {ct : CT} (h : CTok Try.prog ct) : EntOk Try.prog f_long_double_left (in_long_double_left ct) := inl_ok tt_ok h 60 fn_long_double_left rfl nt_long_double_left rfl cal_long_double_left (by kernel_rfl)
@[match_pattern] abbrev f_long_double_right : Nat := 48
theorem fn_long_double_right : Try.prog.funcs[f_long_double_right]? = some Try.f48 := Try.func48
abbrev n_long_double_right : Nat := 10
theorem nt_long_double_right : Try.f48.ntmps = n_long_double_right := Try.ntmps48
abbrev k_long_double_right : List Nat := [0, 1, 2, 4]
abbrev rs_long_double_right : List ResultVar := [.cell 4 48]
theorem cal_long_double_right : Sx.Callee Try.prog f_long_double_right := ⟨_, Try.func48, by kernel_rfl, by kernel_rfl⟩
noncomputable abbrev in_long_double_right (ct : CT) : Ent := .st (inlS tt ct n_long_double_right k_long_double_right rs_long_double_right 60 (Try.f48.body.getD .skip))
theorem in_long_double_right_ok {ct : CT} (h : CTok Try.prog ct) : EntOk Try.prog f_long_double_right (in_long_double_right ct) := inl_ok tt_ok h 60 fn_long_double_right rfl nt_long_double_right rfl cal_long_double_right (by kernel_rfl)
@[match_pattern] abbrev f_r02_right : Nat := 49
theorem fn_r02_right : Try.prog.funcs[f_r02_right]? = some Try.f49 := Try.func49
abbrev n_r02_right : Nat := 24
theorem nt_r02_right : Try.f49.ntmps = n_r02_right := Try.ntmps49
abbrev k_r02_right : List Nat := [0, 1, 4, 5, 6, 11]
abbrev rs_r02_right : List ResultVar := [.tmp 4]
theorem cal_r02_right : Sx.Callee Try.prog f_r02_right := ⟨_, Try.func49, by kernel_rfl, by kernel_rfl⟩
noncomputable abbrev in_r02_right (ct : CT) : Ent := .st (inlS tt ct n_r02_right k_r02_right rs_r02_right 60 (Try.f49.body.getD .skip))
theorem in_r02_right_ok {ct : CT} (h : CTok Try.prog ct) : EntOk Try.prog f_r02_right (in_r02_right ct) := inl_ok tt_ok h 60 fn_r02_right rfl nt_r02_right rfl cal_r02_right (by kernel_rfl)
@[match_pattern] abbrev f_math_bits_LeadingZeros64 : Nat := 50
theorem fn_math_bits_LeadingZeros64 : Try.prog.funcs[f_math_bits_LeadingZeros64]? = some Try.f50 := Try.func50
abbrev n_math_bits_LeadingZeros64 : Nat := 6
theorem nt_math_bits_LeadingZeros64 : Try.f50.ntmps = n_math_bits_LeadingZeros64 := Try.ntmps50
abbrev k_math_bits_LeadingZeros64 : List Nat := [0, 2]
abbrev rs_math_bits_LeadingZeros64 : List ResultVar := [.tmp 2]
theorem cal_math_bits_LeadingZeros64 : Sx.Callee Try.prog f_math_bits_LeadingZeros64 := ⟨_, Try.func50, by kernel_rfl, by kernel_rfl⟩
noncomputable abbrev in_math_bits_LeadingZeros64 (ct : CT) : Ent := .st (inlS tt ct n_math_bits_LeadingZeros64 k_math_bits_LeadingZeros64 rs_math_bits_LeadingZeros64 60 (Try.f50.body.getD .skip))
theorem in_math_bits_LeadingZeros64_ok {ct : CT} (h : CTok Try.prog ct) : EntOk Try.prog f_math_bits_LeadingZeros64 (in_math_bits_LeadingZeros64 ct) := inl_ok tt_ok h 60 fn_math_bits_LeadingZeros64 rfl nt_math_bits_LeadingZeros64 rfl cal_math_bits_LeadingZeros64 (by kernel_rfl)
@[match_pattern] abbrev f_long_double_value : Nat := 51
theorem fn_long_double_value : Try.prog.funcs[f_long_double_value]? = some Try.f51 := Try.func51
abbrev n_long_double_value : Nat := 11
theorem nt_long_double_value : Try.f51.ntmps = n_long_double_value := Try.ntmps51
abbrev k_long_double_value : List Nat := [0, 1, 2]
abbrev rs_long_double_value : List ResultVar := [.tmp 2]
theorem cal_long_double_value : Sx.Callee Try.prog f_long_double_value := ⟨_, Try.func51, by kernel_rfl, by kernel_rfl⟩
noncomputable abbrev in_long_double_value (ct : CT) : Ent := .st (inlS tt ct n_long_double_value k_long_double_value rs_long_double_value 60 (Try.f51.body.getD .skip))
theorem in_long_double_value_ok {ct : CT} (h : CTok Try.prog ct) : EntOk Try.prog f_long_double_value (in_long_double_value ct) := inl_ok tt_ok h 60 fn_long_double_value rfl nt_long_double_value rfl cal_long_double_value (by kernel_rfl)
@[match_pattern] abbrev f_long_signed : Nat := 52
theorem fn_long_signed : Try.prog.funcs[f_long_signed]? = some Try.f52 := Try.func52
abbrev n_long_signed : Nat := 11
theorem nt_long_signed : Try.f52.ntmps = n_long_signed := Try.ntmps52
abbrev k_long_signed : List Nat := [0, 2, 3]
abbrev rs_long_signed : List ResultVar := [.tmp 2, .tmp 3]
theorem cal_long_signed : Sx.Callee Try.prog f_long_signed := ⟨_, Try.func52, by kernel_rfl, by kernel_rfl⟩
noncomputable abbrev in_long_signed (ct : CT) : Ent := .st (inlS tt ct n_long_signed k_long_signed rs_long_signed 60 (Try.f52.body.getD .skip))
theorem in_long_signed_ok {ct : CT} (h : CTok Try.prog ct) : EntOk Try.prog f_long_signed (in_long_signed ct) := inl_ok tt_ok h 60 fn_long_signed rfl nt_long_signed rfl cal_long_signed (by kernel_rfl)
@[match_pattern] abbrev f_r02_wrap : Nat := 53
theorem fn_r02_wrap : Try.prog.funcs[f_r02_wrap]? = some Try.f53 := Try.func53
abbrev n_r02_wrap : Nat := 22
theorem nt_r02_wrap : Try.f53.ntmps = n_r02_wrap := Try.ntmps53
abbrev k_r02_wrap : List Nat := [0, 2, 3, 4, 12, 16]
abbrev rs_r02_wrap : List ResultVar := [.tmp 2, .tmp 3]
theorem cal_r02_wrap : Sx.Callee Try.prog f_r02_wrap := ⟨_, Try.func53, by kernel_rfl, by kernel_rfl⟩
noncomputable abbrev in_r02_wrap (ct : CT) : Ent := .st (inlS tt ct n_r02_wrap k_r02_wrap rs_r02_wrap 60 (Try.f53.body.getD .skip))
theorem in_r02_wrap_ok {ct : CT} (h : CTok Try.prog ct) : EntOk Try.prog f_r02_wrap (in_r02_wrap ct) := inl_ok tt_ok h 60 fn_r02_wrap rfl nt_r02_wrap rfl cal_r02_wrap (by kernel_rfl)
@[match_pattern] abbrev f_math_bits_Len64 : Nat := 54
theorem fn_math_bits_Len64 : Try.prog.funcs[f_math_bits_Len64]? = some Try.f54 := Try.func54
abbrev n_math_bits_Len64 : Nat := 25
theorem nt_math_bits_Len64 : Try.f54.ntmps = n_math_bits_Len64 := Try.ntmps54
abbrev k_math_bits_Len64 : List Nat := [0, 2, 4, 8, 14]
abbrev rs_math_bits_Len64 : List ResultVar := [.tmp 2]
theorem cal_math_bits_Len64 : Sx.Callee Try.prog f_math_bits_Len64 := ⟨_, Try.func54, by kernel_rfl, by kernel_rfl⟩
noncomputable abbrev in_math_bits_Len64 (ct : CT) : Ent := .st (inlS tt ct n_math_bits_Len64 k_math_bits_Len64 rs_math_bits_Len64 60 (Try.f54.body.getD .skip))
theorem in_math_bits_Len64_ok {ct : CT} (h : CTok Try.prog ct) : EntOk Try.prog f_math_bits_Len64 (in_math_bits_Len64 ct) := inl_ok tt_ok h 60 fn_math_bits_Len64 rfl nt_math_bits_Len64 rfl cal_math_bits_Len64 (by kernel_rfl)
end Go.Proofs
