/- Types, slots and numbers of this seat's functions (printed by a program). -/
import Derived.Test.YtehloaopipkbjaaSxC
import Derived.Test.YtehloaopipkbjaaProg

namespace Go.Proofs
open Go Go.Sx
def ti2 : TI := { size := 1, zv := .int .i64 0, agg := false, kd := .int .i64 }
theorem tok2 : TIok Try.prog 2 ti2 := ⟨by kernel_rfl, by kernel_rfl, by kernel_rfl, by kernel_rfl, fun _ h => by cases h⟩
def ti3 : TI := { size := 1, zv := .int .i64 0, agg := false, kd := .int .i64 }
theorem tok3 : TIok Try.prog 3 ti3 := ⟨by kernel_rfl, by kernel_rfl, by kernel_rfl, by kernel_rfl, fun _ h => by cases h⟩
def ti4 : TI := { size := 1, zv := .bool false, agg := false, kd := .bool }
theorem tok4 : TIok Try.prog 4 ti4 := ⟨by kernel_rfl, by kernel_rfl, by kernel_rfl, by kernel_rfl, fun _ h => by cases h⟩
def ti5 : TI := { size := 1, zv := .int .u8 0, agg := false, kd := .int .u8 }
theorem tok5 : TIok Try.prog 5 ti5 := ⟨by kernel_rfl, by kernel_rfl, by kernel_rfl, by kernel_rfl, fun _ h => by cases h⟩
def ti9 : TI := { size := 1, zv := .string ByteArray.empty, agg := false, kd := .str }
theorem tok9 : TIok Try.prog 9 ti9 := ⟨by kernel_rfl, by kernel_rfl, by kernel_rfl, by kernel_rfl, fun _ h => by cases h⟩
def ti21 : TI := { size := 1, zv := .int .i32 0, agg := false, kd := .int .i32 }
theorem tok21 : TIok Try.prog 21 ti21 := ⟨by kernel_rfl, by kernel_rfl, by kernel_rfl, by kernel_rfl, fun _ h => by cases h⟩
def ti28 : TI := { size := 1, zv := .slice none 0 0, agg := false, kd := .slice 5 1 1 }
theorem tok28 : TIok Try.prog 28 ti28 := ⟨by kernel_rfl, by kernel_rfl, by kernel_rfl, by kernel_rfl, fun _ h => by cases h⟩
def ti29 : TI := { size := 1, zv := .pointer none, agg := false, kd := .ptr }
theorem tok29 : TIok Try.prog 29 ti29 := ⟨by kernel_rfl, by kernel_rfl, by kernel_rfl, by kernel_rfl, fun _ h => by cases h⟩
def ti30 : TI := { size := 1, zv := .int .i64 0, agg := false, kd := .int .i64 }
theorem tok30 : TIok Try.prog 30 ti30 := ⟨by kernel_rfl, by kernel_rfl, by kernel_rfl, by kernel_rfl, fun _ h => by cases h⟩
def ti42 : TI := { size := 1, zv := .int .u32 0, agg := false, kd := .int .u32 }
theorem tok42 : TIok Try.prog 42 ti42 := ⟨by kernel_rfl, by kernel_rfl, by kernel_rfl, by kernel_rfl, fun _ h => by cases h⟩
def ti43 : TI := { size := 1, zv := .int .u64 0, agg := false, kd := .int .u64 }
theorem tok43 : TIok Try.prog 43 ti43 := ⟨by kernel_rfl, by kernel_rfl, by kernel_rfl, by kernel_rfl, fun _ h => by cases h⟩
def ti45 : TI := { size := 1, zv := .slice none 0 0, agg := false, kd := .slice 51 6 48 }
theorem tok45 : TIok Try.prog 45 ti45 := ⟨by kernel_rfl, by kernel_rfl, by kernel_rfl, by kernel_rfl, fun _ h => by cases h⟩
def ti51 : TI := { size := 6, zv := .agg #[.int .u8 0, .int .i32 0, .int .i32 0, .int .i32 0, .int .i64 0, .slice none 0 0], agg := true, kd := .struct [(0, (1, false)), (1, (1, false)), (2, (1, false)), (3, (1, false)), (4, (1, false)), (5, (1, false))] }
theorem tok51 : TIok Try.prog 51 ti51 := ⟨by kernel_rfl, by kernel_rfl, by kernel_rfl, by kernel_rfl, fun _ h => by cases h⟩
def ti55 : TI := { size := 1, zv := .agg #[.slice none 0 0], agg := true, kd := .struct [(0, (1, false))] }
theorem tok55 : TIok Try.prog 55 ti55 := ⟨by kernel_rfl, by kernel_rfl, by kernel_rfl, by kernel_rfl, fun _ h => by cases h⟩
abbrev tt : TT := [(2, ti2), (3, ti3), (4, ti4), (5, ti5), (9, ti9), (21, ti21), (28, ti28), (29, ti29), (30, ti30), (42, ti42), (43, ti43), (45, ti45), (51, ti51), (55, ti55)]
theorem tt_ok : TTok Try.prog tt := ⟨tok2, tok3, tok4, tok5, tok9, tok21, tok28, tok29, tok30, tok42, tok43, tok45, tok51, tok55, (show Try.prog.follows .mixedOrders = true by kernel_rfl)⟩
@[match_pattern] abbrev f_l03_MemAddresses : Nat := 3
theorem fn_l03_MemAddresses : Try.prog.funcs[f_l03_MemAddresses]? = some Try.f3 := Try.func3
abbrev n_l03_MemAddresses : Nat := 66
theorem nt_l03_MemAddresses : Try.f3.ntmps = n_l03_MemAddresses := Try.ntmps3
abbrev k_l03_MemAddresses : List Nat := [0, 1, 4, 5, 6, 7, 8]
abbrev rs_l03_MemAddresses : List ResultVar := [.tmp 4]
theorem cal_l03_MemAddresses : Sx.Callee Try.prog f_l03_MemAddresses := ⟨_, Try.func3, by kernel_rfl, by kernel_rfl⟩
noncomputable abbrev in_l03_MemAddresses (ct : CT) : Ent := .st (inlS tt ct n_l03_MemAddresses k_l03_MemAddresses rs_l03_MemAddresses 60 (Try.f3.body.getD .skip))
theorem in_l03_MemAddresses_ok {ct : CT} (h : CTok Try.prog ct) : EntOk Try.prog f_l03_MemAddresses (in_l03_MemAddresses ct) := inl_ok tt_ok h 60 fn_l03_MemAddresses rfl nt_l03_MemAddresses rfl cal_l03_MemAddresses (by kernel_rfl)
@[match_pattern] abbrev f_l03_MemFrom : Nat := 4
theorem fn_l03_MemFrom : Try.prog.funcs[f_l03_MemFrom]? = some Try.f4 := Try.func4
abbrev n_l03_MemFrom : Nat := 116
theorem nt_l03_MemFrom : Try.f4.ntmps = n_l03_MemFrom := Try.ntmps4
abbrev k_l03_MemFrom : List Nat := [0, 1, 4, 5, 6, 7, 8, 9, 10, 11, 12, 13, 14, 17, 53, 55, 60, 76]
abbrev rs_l03_MemFrom : List ResultVar := [.tmp 4]
theorem cal_l03_MemFrom : Sx.Callee Try.prog f_l03_MemFrom := ⟨_, Try.func4, by kernel_rfl, by kernel_rfl⟩
noncomputable abbrev in_l03_MemFrom (ct : CT) : Ent := .st (inlS tt ct n_l03_MemFrom k_l03_MemFrom rs_l03_MemFrom 60 (Try.f4.body.getD .skip))
theorem in_l03_MemFrom_ok {ct : CT} (h : CTok Try.prog ct) : EntOk Try.prog f_l03_MemFrom (in_l03_MemFrom ct) := inl_ok tt_ok h 60 fn_l03_MemFrom rfl nt_l03_MemFrom rfl cal_l03_MemFrom (by kernel_rfl)
@[match_pattern] abbrev f_l03_MemWords : Nat := 5
theorem fn_l03_MemWords : Try.prog.funcs[f_l03_MemWords]? = some Try.f5 := Try.func5
abbrev n_l03_MemWords : Nat := 110
theorem nt_l03_MemWords : Try.f5.ntmps = n_l03_MemWords := Try.ntmps5
abbrev k_l03_MemWords : List Nat := [0, 1, 2, 6, 7, 8, 9, 10, 11, 12, 13, 14, 15, 18, 26, 38, 40, 59, 63, 78, 93]
abbrev rs_l03_MemWords : List ResultVar := [.tmp 6]
theorem cal_l03_MemWords : Sx.Callee Try.prog f_l03_MemWords := ⟨_, Try.func5, by kernel_rfl, by kernel_rfl⟩
noncomputable abbrev in_l03_MemWords (ct : CT) : Ent := .st (inlS tt ct n_l03_MemWords k_l03_MemWords rs_l03_MemWords 60 (Try.f5.body.getD .skip))
theorem in_l03_MemWords_ok {ct : CT} (h : CTok Try.prog ct) : EntOk Try.prog f_l03_MemWords (in_l03_MemWords ct) := inl_ok tt_ok h 60 fn_l03_MemWords rfl nt_l03_MemWords rfl cal_l03_MemWords (by kernel_rfl)
@[match_pattern] abbrev f_l03_MemPlays : Nat := 6
theorem fn_l03_MemPlays : Try.prog.funcs[f_l03_MemPlays]? = some Try.f6 := Try.func6
abbrev n_l03_MemPlays : Nat := 76
theorem nt_l03_MemPlays : Try.f6.ntmps = n_l03_MemPlays := Try.ntmps6
abbrev k_l03_MemPlays : List Nat := [0, 1, 4, 5, 6, 7, 8, 9, 10, 34, 40, 47, 61]
abbrev rs_l03_MemPlays : List ResultVar := [.tmp 4]
theorem cal_l03_MemPlays : Sx.Callee Try.prog f_l03_MemPlays := ⟨_, Try.func6, by kernel_rfl, by kernel_rfl⟩
noncomputable abbrev in_l03_MemPlays (ct : CT) : Ent := .st (inlS tt ct n_l03_MemPlays k_l03_MemPlays rs_l03_MemPlays 60 (Try.f6.body.getD .skip))
theorem in_l03_MemPlays_ok {ct : CT} (h : CTok Try.prog ct) : EntOk Try.prog f_l03_MemPlays (in_l03_MemPlays ct) := inl_ok tt_ok h 60 fn_l03_MemPlays rfl nt_l03_MemPlays rfl cal_l03_MemPlays (by kernel_rfl)
@[match_pattern] abbrev f_l03_MemNone : Nat := 7
theorem fn_l03_MemNone : Try.prog.funcs[f_l03_MemNone]? = some Try.f7 := Try.func7
abbrev n_l03_MemNone : Nat := 18
theorem nt_l03_MemNone : Try.f7.ntmps = n_l03_MemNone := Try.ntmps7
abbrev k_l03_MemNone : List Nat := [0, 1, 2, 3, 7]
abbrev rs_l03_MemNone : List ResultVar := [.tmp 2]
theorem cal_l03_MemNone : Sx.Callee Try.prog f_l03_MemNone := ⟨_, Try.func7, by kernel_rfl, by kernel_rfl⟩
noncomputable abbrev in_l03_MemNone (ct : CT) : Ent := .st (inlS tt ct n_l03_MemNone k_l03_MemNone rs_l03_MemNone 60 (Try.f7.body.getD .skip))
theorem in_l03_MemNone_ok {ct : CT} (h : CTok Try.prog ct) : EntOk Try.prog f_l03_MemNone (in_l03_MemNone ct) := inl_ok tt_ok h 60 fn_l03_MemNone rfl nt_l03_MemNone rfl cal_l03_MemNone (by kernel_rfl)
@[match_pattern] abbrev f_l03_MemCopies : Nat := 8
theorem fn_l03_MemCopies : Try.prog.funcs[f_l03_MemCopies]? = some Try.f8 := Try.func8
abbrev n_l03_MemCopies : Nat := 101
theorem nt_l03_MemCopies : Try.f8.ntmps = n_l03_MemCopies := Try.ntmps8
abbrev k_l03_MemCopies : List Nat := [0, 1, 2, 6, 7, 8, 9, 10, 11, 12, 13, 14, 25, 33, 39, 51, 57, 71, 87]
abbrev rs_l03_MemCopies : List ResultVar := [.tmp 6]
theorem cal_l03_MemCopies : Sx.Callee Try.prog f_l03_MemCopies := ⟨_, Try.func8, by kernel_rfl, by kernel_rfl⟩
noncomputable abbrev in_l03_MemCopies (ct : CT) : Ent := .st (inlS tt ct n_l03_MemCopies k_l03_MemCopies rs_l03_MemCopies 60 (Try.f8.body.getD .skip))
theorem in_l03_MemCopies_ok {ct : CT} (h : CTok Try.prog ct) : EntOk Try.prog f_l03_MemCopies (in_l03_MemCopies ct) := inl_ok tt_ok h 60 fn_l03_MemCopies rfl nt_l03_MemCopies rfl cal_l03_MemCopies (by kernel_rfl)
@[match_pattern] abbrev f_l03_MemMoves : Nat := 9
theorem fn_l03_MemMoves : Try.prog.funcs[f_l03_MemMoves]? = some Try.f9 := Try.func9
abbrev n_l03_MemMoves : Nat := 80
theorem nt_l03_MemMoves : Try.f9.ntmps = n_l03_MemMoves := Try.ntmps9
abbrev k_l03_MemMoves : List Nat := [0, 1, 3, 4, 5, 6, 7, 8, 9, 10, 11, 12, 13, 14, 23, 40, 62]
abbrev rs_l03_MemMoves : List ResultVar := [.tmp 4]
theorem cal_l03_MemMoves : Sx.Callee Try.prog f_l03_MemMoves := ⟨_, Try.func9, by kernel_rfl, by kernel_rfl⟩
noncomputable abbrev in_l03_MemMoves (ct : CT) : Ent := .st (inlS tt ct n_l03_MemMoves k_l03_MemMoves rs_l03_MemMoves 60 (Try.f9.body.getD .skip))
theorem in_l03_MemMoves_ok {ct : CT} (h : CTok Try.prog ct) : EntOk Try.prog f_l03_MemMoves (in_l03_MemMoves ct) := inl_ok tt_ok h 60 fn_l03_MemMoves rfl nt_l03_MemMoves rfl cal_l03_MemMoves (by kernel_rfl)
@[match_pattern] abbrev f_mem_Wcnt : Nat := 10
theorem fn_mem_Wcnt : Try.prog.funcs[f_mem_Wcnt]? = some Try.f10 := Try.func10
abbrev n_mem_Wcnt : Nat := 8
theorem nt_mem_Wcnt : Try.f10.ntmps = n_mem_Wcnt := Try.ntmps10
abbrev k_mem_Wcnt : List Nat := [0, 2, 3]
abbrev rs_mem_Wcnt : List ResultVar := [.tmp 2, .tmp 3]
theorem cal_mem_Wcnt : Sx.Callee Try.prog f_mem_Wcnt := ⟨_, Try.func10, by kernel_rfl, by kernel_rfl⟩
noncomputable abbrev in_mem_Wcnt (ct : CT) : Ent := .st (inlS tt ct n_mem_Wcnt k_mem_Wcnt rs_mem_Wcnt 60 (Try.f10.body.getD .skip))
theorem in_mem_Wcnt_ok {ct : CT} (h : CTok Try.prog ct) : EntOk Try.prog f_mem_Wcnt (in_mem_Wcnt ct) := inl_ok tt_ok h 60 fn_mem_Wcnt rfl nt_mem_Wcnt rfl cal_mem_Wcnt (by kernel_rfl)
@[match_pattern] abbrev f_r03_Wcnt : Nat := 11
theorem fn_r03_Wcnt : Try.prog.funcs[f_r03_Wcnt]? = some Try.f11 := Try.func11
abbrev n_r03_Wcnt : Nat := 19
theorem nt_r03_Wcnt : Try.f11.ntmps = n_r03_Wcnt := Try.ntmps11
abbrev k_r03_Wcnt : List Nat := [0, 2, 3, 4, 8]
abbrev rs_r03_Wcnt : List ResultVar := [.tmp 2, .tmp 3]
theorem cal_r03_Wcnt : Sx.Callee Try.prog f_r03_Wcnt := ⟨_, Try.func11, by kernel_rfl, by kernel_rfl⟩
noncomputable abbrev in_r03_Wcnt (ct : CT) : Ent := .st (inlS tt ct n_r03_Wcnt k_r03_Wcnt rs_r03_Wcnt 60 (Try.f11.body.getD .skip))
theorem in_r03_Wcnt_ok {ct : CT} (h : CTok Try.prog ct) : EntOk Try.prog f_r03_Wcnt (in_r03_Wcnt ct) := inl_ok tt_ok h 60 fn_r03_Wcnt rfl nt_r03_Wcnt rfl cal_r03_Wcnt (by kernel_rfl)
@[match_pattern] abbrev f_mem_Bsub : Nat := 12
theorem fn_mem_Bsub : Try.prog.funcs[f_mem_Bsub]? = some Try.f12 := Try.func12
abbrev n_mem_Bsub : Nat := 8
theorem nt_mem_Bsub : Try.f12.ntmps = n_mem_Bsub := Try.ntmps12
abbrev k_mem_Bsub : List Nat := [0, 1, 4]
abbrev rs_mem_Bsub : List ResultVar := [.tmp 4]
theorem cal_mem_Bsub : Sx.Callee Try.prog f_mem_Bsub := ⟨_, Try.func12, by kernel_rfl, by kernel_rfl⟩
noncomputable abbrev in_mem_Bsub (ct : CT) : Ent := .st (inlS tt ct n_mem_Bsub k_mem_Bsub rs_mem_Bsub 60 (Try.f12.body.getD .skip))
theorem in_mem_Bsub_ok {ct : CT} (h : CTok Try.prog ct) : EntOk Try.prog f_mem_Bsub (in_mem_Bsub ct) := inl_ok tt_ok h 60 fn_mem_Bsub rfl nt_mem_Bsub rfl cal_mem_Bsub (by kernel_rfl)
@[match_pattern] abbrev f_r03_Bsub : Nat := 13
theorem fn_r03_Bsub : Try.prog.funcs[f_r03_Bsub]? = some Try.f13 := Try.func13
abbrev n_r03_Bsub : Nat := 8
theorem nt_r03_Bsub : Try.f13.ntmps = n_r03_Bsub := Try.ntmps13
abbrev k_r03_Bsub : List Nat := [0, 1, 4]
abbrev rs_r03_Bsub : List ResultVar := [.tmp 4]
theorem cal_r03_Bsub : Sx.Callee Try.prog f_r03_Bsub := ⟨_, Try.func13, by kernel_rfl, by kernel_rfl⟩
noncomputable abbrev in_r03_Bsub (ct : CT) : Ent := .st (inlS tt ct n_r03_Bsub k_r03_Bsub rs_r03_Bsub 60 (Try.f13.body.getD .skip))
theorem in_r03_Bsub_ok {ct : CT} (h : CTok Try.prog ct) : EntOk Try.prog f_r03_Bsub (in_r03_Bsub ct) := inl_ok tt_ok h 60 fn_r03_Bsub rfl nt_r03_Bsub rfl cal_r03_Bsub (by kernel_rfl)
@[match_pattern] abbrev f_mem_Wsub : Nat := 14
theorem fn_mem_Wsub : Try.prog.funcs[f_mem_Wsub]? = some Try.f14 := Try.func14
abbrev n_mem_Wsub : Nat := 9
theorem nt_mem_Wsub : Try.f14.ntmps = n_mem_Wsub := Try.ntmps14
abbrev k_mem_Wsub : List Nat := [0, 1, 4]
abbrev rs_mem_Wsub : List ResultVar := [.tmp 4]
theorem cal_mem_Wsub : Sx.Callee Try.prog f_mem_Wsub := ⟨_, Try.func14, by kernel_rfl, by kernel_rfl⟩
noncomputable abbrev in_mem_Wsub (ct : CT) : Ent := .st (inlS tt ct n_mem_Wsub k_mem_Wsub rs_mem_Wsub 60 (Try.f14.body.getD .skip))
theorem in_mem_Wsub_ok {ct : CT} (h : CTok Try.prog ct) : EntOk Try.prog f_mem_Wsub (in_mem_Wsub ct) := inl_ok tt_ok h 60 fn_mem_Wsub rfl nt_mem_Wsub rfl cal_mem_Wsub (by kernel_rfl)
@[match_pattern] abbrev f_r03_Wsub : Nat := 15
theorem fn_r03_Wsub : Try.prog.funcs[f_r03_Wsub]? = some Try.f15 := Try.func15
abbrev n_r03_Wsub : Nat := 9
theorem nt_r03_Wsub : Try.f15.ntmps = n_r03_Wsub := Try.ntmps15
abbrev k_r03_Wsub : List Nat := [0, 1, 4]
abbrev rs_r03_Wsub : List ResultVar := [.tmp 4]
theorem cal_r03_Wsub : Sx.Callee Try.prog f_r03_Wsub := ⟨_, Try.func15, by kernel_rfl, by kernel_rfl⟩
noncomputable abbrev in_r03_Wsub (ct : CT) : Ent := .st (inlS tt ct n_r03_Wsub k_r03_Wsub rs_r03_Wsub 60 (Try.f15.body.getD .skip))
theorem in_r03_Wsub_ok {ct : CT} (h : CTok Try.prog ct) : EntOk Try.prog f_r03_Wsub (in_r03_Wsub ct) := inl_ok tt_ok h 60 fn_r03_Wsub rfl nt_r03_Wsub rfl cal_r03_Wsub (by kernel_rfl)
@[match_pattern] abbrev f_mem_Bcnt : Nat := 16
theorem fn_mem_Bcnt : Try.prog.funcs[f_mem_Bcnt]? = some Try.f16 := Try.func16
abbrev n_mem_Bcnt : Nat := 5
theorem nt_mem_Bcnt : Try.f16.ntmps = n_mem_Bcnt := Try.ntmps16
abbrev k_mem_Bcnt : List Nat := [0, 2]
abbrev rs_mem_Bcnt : List ResultVar := [.tmp 2]
theorem cal_mem_Bcnt : Sx.Callee Try.prog f_mem_Bcnt := ⟨_, Try.func16, by kernel_rfl, by kernel_rfl⟩
noncomputable abbrev in_mem_Bcnt (ct : CT) : Ent := .st (inlS tt ct n_mem_Bcnt k_mem_Bcnt rs_mem_Bcnt 60 (Try.f16.body.getD .skip))
theorem in_mem_Bcnt_ok {ct : CT} (h : CTok Try.prog ct) : EntOk Try.prog f_mem_Bcnt (in_mem_Bcnt ct) := inl_ok tt_ok h 60 fn_mem_Bcnt rfl nt_mem_Bcnt rfl cal_mem_Bcnt (by kernel_rfl)
@[match_pattern] abbrev f_l03_head : Nat := 17
theorem fn_l03_head : Try.prog.funcs[f_l03_head]? = some Try.f17 := Try.func17
abbrev n_l03_head : Nat := 104
theorem nt_l03_head : Try.f17.ntmps = n_l03_head := Try.ntmps17
abbrev k_l03_head : List Nat := [0, 1, 2, 3, 4, 6, 7, 9, 10, 11, 13, 14, 15, 25]
abbrev rs_l03_head : List ResultVar := [.tmp 0]
theorem cal_l03_head : Sx.Callee Try.prog f_l03_head := ⟨_, Try.func17, by kernel_rfl, by kernel_rfl⟩
noncomputable abbrev in_l03_head (ct : CT) : Ent := .st (inlS tt ct n_l03_head k_l03_head rs_l03_head 60 (Try.f17.body.getD .skip))
theorem in_l03_head_ok {ct : CT} (h : CTok Try.prog ct) : EntOk Try.prog f_l03_head (in_l03_head ct) := inl_ok tt_ok h 60 fn_l03_head rfl nt_l03_head rfl cal_l03_head (by kernel_rfl)
@[match_pattern] abbrev f_mem_From : Nat := 18
theorem fn_mem_From : Try.prog.funcs[f_mem_From]? = some Try.f18 := Try.func18
abbrev n_mem_From : Nat := 21
theorem nt_mem_From : Try.f18.ntmps = n_mem_From := Try.ntmps18
abbrev k_mem_From : List Nat := [0, 2, 3, 4, 8]
abbrev rs_mem_From : List ResultVar := [.tmp 2, .tmp 3]
theorem cal_mem_From : Sx.Callee Try.prog f_mem_From := ⟨_, Try.func18, by kernel_rfl, by kernel_rfl⟩
noncomputable abbrev in_mem_From (ct : CT) : Ent := .st (inlS tt ct n_mem_From k_mem_From rs_mem_From 60 (Try.f18.body.getD .skip))
theorem in_mem_From_ok {ct : CT} (h : CTok Try.prog ct) : EntOk Try.prog f_mem_From (in_mem_From ct) := inl_ok tt_ok h 60 fn_mem_From rfl nt_mem_From rfl cal_mem_From (by kernel_rfl)
@[match_pattern] abbrev f_r03_May : Nat := 19
theorem fn_r03_May : Try.prog.funcs[f_r03_May]? = some Try.f19 := Try.func19
abbrev n_r03_May : Nat := 14
theorem nt_r03_May : Try.f19.ntmps = n_r03_May := Try.ntmps19
abbrev k_r03_May : List Nat := [0, 2]
abbrev rs_r03_May : List ResultVar := [.tmp 2]
theorem cal_r03_May : Sx.Callee Try.prog f_r03_May := ⟨_, Try.func19, by kernel_rfl, by kernel_rfl⟩
noncomputable abbrev in_r03_May (ct : CT) : Ent := .st (inlS tt ct n_r03_May k_r03_May rs_r03_May 60 (Try.f19.body.getD .skip))
theorem in_r03_May_ok {ct : CT} (h : CTok Try.prog ct) : EntOk Try.prog f_r03_May (in_r03_May ct) := inl_ok tt_ok h 60 fn_r03_May rfl nt_r03_May rfl cal_r03_May (by kernel_rfl)
@[match_pattern] abbrev f_r03_Same : Nat := 20
theorem fn_r03_Same : Try.prog.funcs[f_r03_Same]? = some Try.f20 := Try.func20
abbrev n_r03_Same : Nat := 10
theorem nt_r03_Same : Try.f20.ntmps = n_r03_Same := Try.ntmps20
abbrev k_r03_Same : List Nat := [0, 1, 4]
abbrev rs_r03_Same : List ResultVar := [.tmp 4]
theorem cal_r03_Same : Sx.Callee Try.prog f_r03_Same := ⟨_, Try.func20, by kernel_rfl, by kernel_rfl⟩
noncomputable abbrev in_r03_Same (ct : CT) : Ent := .st (inlS tt ct n_r03_Same k_r03_Same rs_r03_Same 60 (Try.f20.body.getD .skip))
theorem in_r03_Same_ok {ct : CT} (h : CTok Try.prog ct) : EntOk Try.prog f_r03_Same (in_r03_Same ct) := inl_ok tt_ok h 60 fn_r03_Same rfl nt_r03_Same rfl cal_r03_Same (by kernel_rfl)
@[match_pattern] abbrev f_mem_Mem_Bytes : Nat := 21
theorem fn_mem_Mem_Bytes : Try.prog.funcs[f_mem_Mem_Bytes]? = some Try.f21 := Try.func21
abbrev n_mem_Mem_Bytes : Nat := 19
theorem nt_mem_Mem_Bytes : Try.f21.ntmps = n_mem_Mem_Bytes := Try.ntmps21
abbrev k_mem_Mem_Bytes : List Nat := [0, 2, 3, 5]
abbrev rs_mem_Mem_Bytes : List ResultVar := [.tmp 2]
theorem cal_mem_Mem_Bytes : Sx.Callee Try.prog f_mem_Mem_Bytes := ⟨_, Try.func21, by kernel_rfl, by kernel_rfl⟩
noncomputable abbrev in_mem_Mem_Bytes (ct : CT) : Ent := .st (inlS tt ct n_mem_Mem_Bytes k_mem_Mem_Bytes rs_mem_Mem_Bytes 60 (Try.f21.body.getD .skip))
theorem in_mem_Mem_Bytes_ok {ct : CT} (h : CTok Try.prog ct) : EntOk Try.prog f_mem_Mem_Bytes (in_mem_Mem_Bytes ct) := inl_ok tt_ok h 60 fn_mem_Mem_Bytes rfl nt_mem_Mem_Bytes rfl cal_mem_Mem_Bytes (by kernel_rfl)
@[match_pattern] abbrev f_mem_Mem_Word : Nat := 22
theorem fn_mem_Mem_Word : Try.prog.funcs[f_mem_Mem_Word]? = some Try.f22 := Try.func22
abbrev n_mem_Mem_Word : Nat := 40
theorem nt_mem_Mem_Word : Try.f22.ntmps = n_mem_Mem_Word := Try.ntmps22
abbrev k_mem_Mem_Word : List Nat := [0, 1, 4, 5, 6, 7, 15]
abbrev rs_mem_Mem_Word : List ResultVar := [.tmp 4, .tmp 5]
theorem cal_mem_Mem_Word : Sx.Callee Try.prog f_mem_Mem_Word := ⟨_, Try.func22, by kernel_rfl, by kernel_rfl⟩
noncomputable abbrev in_mem_Mem_Word (ct : CT) : Ent := .st (inlS tt ct n_mem_Mem_Word k_mem_Mem_Word rs_mem_Mem_Word 60 (Try.f22.body.getD .skip))
theorem in_mem_Mem_Word_ok {ct : CT} (h : CTok Try.prog ct) : EntOk Try.prog f_mem_Mem_Word (in_mem_Mem_Word ct) := inl_ok tt_ok h 60 fn_mem_Mem_Word rfl nt_mem_Mem_Word rfl cal_mem_Mem_Word (by kernel_rfl)
@[match_pattern] abbrev f_r03_Word : Nat := 23
theorem fn_r03_Word : Try.prog.funcs[f_r03_Word]? = some Try.f23 := Try.func23
abbrev n_r03_Word : Nat := 50
theorem nt_r03_Word : Try.f23.ntmps = n_r03_Word := Try.ntmps23
abbrev k_r03_Word : List Nat := [0, 1, 4, 5, 6, 7, 12]
abbrev rs_r03_Word : List ResultVar := [.tmp 4, .tmp 5]
theorem cal_r03_Word : Sx.Callee Try.prog f_r03_Word := ⟨_, Try.func23, by kernel_rfl, by kernel_rfl⟩
noncomputable abbrev in_r03_Word (ct : CT) : Ent := .st (inlS tt ct n_r03_Word k_r03_Word rs_r03_Word 60 (Try.f23.body.getD .skip))
theorem in_r03_Word_ok {ct : CT} (h : CTok Try.prog ct) : EntOk Try.prog f_r03_Word (in_r03_Word ct) := inl_ok tt_ok h 60 fn_r03_Word rfl nt_r03_Word rfl cal_r03_Word (by kernel_rfl)
@[match_pattern] abbrev f_mem_Mem_SetWord : Nat := 24
theorem fn_mem_Mem_SetWord : Try.prog.funcs[f_mem_Mem_SetWord]? = some Try.f24 := Try.func24
abbrev n_mem_Mem_SetWord : Nat := 32
theorem nt_mem_Mem_SetWord : Try.f24.ntmps = n_mem_Mem_SetWord := Try.ntmps24
abbrev k_mem_Mem_SetWord : List Nat := [0, 1, 2, 6, 7, 8, 9, 17, 18, 19]
abbrev rs_mem_Mem_SetWord : List ResultVar := [.tmp 6]
theorem cal_mem_Mem_SetWord : Sx.Callee Try.prog f_mem_Mem_SetWord := ⟨_, Try.func24, by kernel_rfl, by kernel_rfl⟩
noncomputable abbrev in_mem_Mem_SetWord (ct : CT) : Ent := .st (inlS tt ct n_mem_Mem_SetWord k_mem_Mem_SetWord rs_mem_Mem_SetWord 60 (Try.f24.body.getD .skip))
theorem in_mem_Mem_SetWord_ok {ct : CT} (h : CTok Try.prog ct) : EntOk Try.prog f_mem_Mem_SetWord (in_mem_Mem_SetWord ct) := inl_ok tt_ok h 60 fn_mem_Mem_SetWord rfl nt_mem_Mem_SetWord rfl cal_mem_Mem_SetWord (by kernel_rfl)
@[match_pattern] abbrev f_mem_New : Nat := 25
theorem fn_mem_New : Try.prog.funcs[f_mem_New]? = some Try.f25 := Try.func25
abbrev n_mem_New : Nat := 11
theorem nt_mem_New : Try.f25.ntmps = n_mem_New := Try.ntmps25
abbrev k_mem_New : List Nat := [0, 2, 3, 6]
abbrev rs_mem_New : List ResultVar := [.tmp 2, .tmp 3]
theorem cal_mem_New : Sx.Callee Try.prog f_mem_New := ⟨_, Try.func25, by kernel_rfl, by kernel_rfl⟩
noncomputable abbrev in_mem_New (ct : CT) : Ent := .st (inlS tt ct n_mem_New k_mem_New rs_mem_New 60 (Try.f25.body.getD .skip))
theorem in_mem_New_ok {ct : CT} (h : CTok Try.prog ct) : EntOk Try.prog f_mem_New (in_mem_New ct) := inl_ok tt_ok h 60 fn_mem_New rfl nt_mem_New rfl cal_mem_New (by kernel_rfl)
@[match_pattern] abbrev f_l03_great : Nat := 26
theorem fn_l03_great : Try.prog.funcs[f_l03_great]? = some Try.f26 := Try.func26
abbrev n_l03_great : Nat := 33
theorem nt_l03_great : Try.f26.ntmps = n_l03_great := Try.ntmps26
abbrev k_l03_great : List Nat := [0, 2, 3, 4, 8, 17]
abbrev rs_l03_great : List ResultVar := [.tmp 2]
theorem cal_l03_great : Sx.Callee Try.prog f_l03_great := ⟨_, Try.func26, by kernel_rfl, by kernel_rfl⟩
noncomputable abbrev in_l03_great (ct : CT) : Ent := .st (inlS tt ct n_l03_great k_l03_great rs_l03_great 60 (Try.f26.body.getD .skip))
theorem in_l03_great_ok {ct : CT} (h : CTok Try.prog ct) : EntOk Try.prog f_l03_great (in_l03_great ct) := inl_ok tt_ok h 60 fn_l03_great rfl nt_l03_great rfl cal_l03_great (by kernel_rfl)
@[match_pattern] abbrev f_l03_does : Nat := 27
theorem fn_l03_does : Try.prog.funcs[f_l03_does]? = some Try.f27 := Try.func27
abbrev n_l03_does : Nat := 218
theorem nt_l03_does : Try.f27.ntmps = n_l03_does := Try.ntmps27
abbrev k_l03_does : List Nat := [0, 1, 2, 5, 6, 7, 8, 9, 10, 11, 12, 13, 14, 15, 16, 17, 18, 19, 20, 21, 22, 23, 24, 25, 26, 27, 28, 29, 30, 31, 32, 33, 36, 37, 60, 81, 102, 127, 158]
abbrev rs_l03_does : List ResultVar := [.tmp 6, .tmp 7]
theorem cal_l03_does : Sx.Callee Try.prog f_l03_does := ⟨_, Try.func27, by kernel_rfl, by kernel_rfl⟩
noncomputable abbrev in_l03_does (ct : CT) : Ent := .st (inlS tt ct n_l03_does k_l03_does rs_l03_does 60 (Try.f27.body.getD .skip))
theorem in_l03_does_ok {ct : CT} (h : CTok Try.prog ct) : EntOk Try.prog f_l03_does (in_l03_does ct) := inl_ok tt_ok h 60 fn_l03_does rfl nt_l03_does rfl cal_l03_does (by kernel_rfl)
@[match_pattern] abbrev f_mem_Mem_Size : Nat := 28
theorem fn_mem_Mem_Size : Try.prog.funcs[f_mem_Mem_Size]? = some Try.f28 := Try.func28
abbrev n_mem_Mem_Size : Nat := 10
theorem nt_mem_Mem_Size : Try.f28.ntmps = n_mem_Mem_Size := Try.ntmps28
abbrev k_mem_Mem_Size : List Nat := [0, 2, 4]
abbrev rs_mem_Mem_Size : List ResultVar := [.tmp 2]
theorem cal_mem_Mem_Size : Sx.Callee Try.prog f_mem_Mem_Size := ⟨_, Try.func28, by kernel_rfl, by kernel_rfl⟩
noncomputable abbrev in_mem_Mem_Size (ct : CT) : Ent := .st (inlS tt ct n_mem_Mem_Size k_mem_Mem_Size rs_mem_Mem_Size 60 (Try.f28.body.getD .skip))
theorem in_mem_Mem_Size_ok {ct : CT} (h : CTok Try.prog ct) : EntOk Try.prog f_mem_Mem_Size (in_mem_Mem_Size ct) := inl_ok tt_ok h 60 fn_mem_Mem_Size rfl nt_mem_Mem_Size rfl cal_mem_Mem_Size (by kernel_rfl)
@[match_pattern] abbrev f_l03_none : Nat := 29
theorem fn_l03_none : Try.prog.funcs[f_l03_none]? = some Try.f29 := Try.func29
abbrev n_l03_none : Nat := 112
theorem nt_l03_none : Try.f29.ntmps = n_l03_none := Try.ntmps29
abbrev k_l03_none : List Nat := [0, 1, 3, 4, 5, 6, 7, 8, 9, 10]
abbrev rs_l03_none : List ResultVar := [.tmp 4]
theorem cal_l03_none : Sx.Callee Try.prog f_l03_none := ⟨_, Try.func29, by kernel_rfl, by kernel_rfl⟩
noncomputable abbrev in_l03_none (ct : CT) : Ent := .st (inlS tt ct n_l03_none k_l03_none rs_l03_none 60 (Try.f29.body.getD .skip))
theorem in_l03_none_ok {ct : CT} (h : CTok Try.prog ct) : EntOk Try.prog f_l03_none (in_l03_none ct) := inl_ok tt_ok h 60 fn_l03_none rfl nt_l03_none rfl cal_l03_none (by kernel_rfl)
@[match_pattern] abbrev f_mem_Mem_Copy : Nat := 30
theorem fn_mem_Mem_Copy : Try.prog.funcs[f_mem_Mem_Copy]? = some Try.f30 := Try.func30
abbrev n_mem_Mem_Copy : Nat := 9
theorem nt_mem_Mem_Copy : Try.f30.ntmps = n_mem_Mem_Copy := Try.ntmps30
abbrev k_mem_Mem_Copy : List Nat := [0, 2, 4]
abbrev rs_mem_Mem_Copy : List ResultVar := [.tmp 2]
theorem cal_mem_Mem_Copy : Sx.Callee Try.prog f_mem_Mem_Copy := ⟨_, Try.func30, by kernel_rfl, by kernel_rfl⟩
noncomputable abbrev in_mem_Mem_Copy (ct : CT) : Ent := .st (inlS tt ct n_mem_Mem_Copy k_mem_Mem_Copy rs_mem_Mem_Copy 60 (Try.f30.body.getD .skip))
theorem in_mem_Mem_Copy_ok {ct : CT} (h : CTok Try.prog ct) : EntOk Try.prog f_mem_Mem_Copy (in_mem_Mem_Copy ct) := inl_ok tt_ok h 60 fn_mem_Mem_Copy rfl nt_mem_Mem_Copy rfl cal_mem_Mem_Copy (by kernel_rfl)
@[match_pattern] abbrev f_mem_Mem_Move : Nat := 31
theorem fn_mem_Mem_Move : Try.prog.funcs[f_mem_Mem_Move]? = some Try.f31 := Try.func31
abbrev n_mem_Mem_Move : Nat := 40
theorem nt_mem_Mem_Move : Try.f31.ntmps = n_mem_Mem_Move := Try.ntmps31
abbrev k_mem_Mem_Move : List Nat := [0, 1, 2, 3, 8, 9, 10, 11, 13, 15, 26]
abbrev rs_mem_Mem_Move : List ResultVar := [.tmp 8]
theorem cal_mem_Mem_Move : Sx.Callee Try.prog f_mem_Mem_Move := ⟨_, Try.func31, by kernel_rfl, by kernel_rfl⟩
noncomputable abbrev in_mem_Mem_Move (ct : CT) : Ent := .st (inlS tt ct n_mem_Mem_Move k_mem_Mem_Move rs_mem_Mem_Move 60 (Try.f31.body.getD .skip))
theorem in_mem_Mem_Move_ok {ct : CT} (h : CTok Try.prog ct) : EntOk Try.prog f_mem_Mem_Move (in_mem_Mem_Move ct) := inl_ok tt_ok h 60 fn_mem_Mem_Move rfl nt_mem_Mem_Move rfl cal_mem_Mem_Move (by kernel_rfl)
@[match_pattern] abbrev f_mem_Mem_Read : Nat := 32
theorem fn_mem_Mem_Read : Try.prog.funcs[f_mem_Mem_Read]? = some Try.f32 := Try.func32
abbrev n_mem_Mem_Read : Nat := 33
theorem nt_mem_Mem_Read : Try.f32.ntmps = n_mem_Mem_Read := Try.ntmps32
abbrev k_mem_Mem_Read : List Nat := [0, 1, 2, 6, 7, 8, 9, 10, 12, 14, 16, 25]
abbrev rs_mem_Mem_Read : List ResultVar := [.tmp 6, .tmp 7]
theorem cal_mem_Mem_Read : Sx.Callee Try.prog f_mem_Mem_Read := ⟨_, Try.func32, by kernel_rfl, by kernel_rfl⟩
noncomputable abbrev in_mem_Mem_Read (ct : CT) : Ent := .st (inlS tt ct n_mem_Mem_Read k_mem_Mem_Read rs_mem_Mem_Read 60 (Try.f32.body.getD .skip))
theorem in_mem_Mem_Read_ok {ct : CT} (h : CTok Try.prog ct) : EntOk Try.prog f_mem_Mem_Read (in_mem_Mem_Read ct) := inl_ok tt_ok h 60 fn_mem_Mem_Read rfl nt_mem_Mem_Read rfl cal_mem_Mem_Read (by kernel_rfl)
@[match_pattern] abbrev f_mem_Mem_Write : Nat := 33
theorem fn_mem_Mem_Write : Try.prog.funcs[f_mem_Mem_Write]? = some Try.f33 := Try.func33
abbrev n_mem_Mem_Write : Nat := 26
theorem nt_mem_Mem_Write : Try.f33.ntmps = n_mem_Mem_Write := Try.ntmps33
abbrev k_mem_Mem_Write : List Nat := [0, 1, 2, 6, 7, 8, 10, 13]
abbrev rs_mem_Mem_Write : List ResultVar := [.tmp 6]
theorem cal_mem_Mem_Write : Sx.Callee Try.prog f_mem_Mem_Write := ⟨_, Try.func33, by kernel_rfl, by kernel_rfl⟩
noncomputable abbrev in_mem_Mem_Write (ct : CT) : Ent := .st (inlS tt ct n_mem_Mem_Write k_mem_Mem_Write rs_mem_Mem_Write 60 (Try.f33.body.getD .skip))
theorem in_mem_Mem_Write_ok {ct : CT} (h : CTok Try.prog ct) : EntOk Try.prog f_mem_Mem_Write (in_mem_Mem_Write ct) := inl_ok tt_ok h 60 fn_mem_Mem_Write rfl nt_mem_Mem_Write rfl cal_mem_Mem_Write (by kernel_rfl)
@[match_pattern] abbrev f_mem_Mem_Byte : Nat := 34
theorem fn_mem_Mem_Byte : Try.prog.funcs[f_mem_Mem_Byte]? = some Try.f34 := Try.func34
abbrev n_mem_Mem_Byte : Nat := 20
theorem nt_mem_Mem_Byte : Try.f34.ntmps = n_mem_Mem_Byte := Try.ntmps34
abbrev k_mem_Mem_Byte : List Nat := [0, 1, 4, 5, 6, 7, 15]
abbrev rs_mem_Mem_Byte : List ResultVar := [.tmp 4, .tmp 5]
theorem cal_mem_Mem_Byte : Sx.Callee Try.prog f_mem_Mem_Byte := ⟨_, Try.func34, by kernel_rfl, by kernel_rfl⟩
noncomputable abbrev in_mem_Mem_Byte (ct : CT) : Ent := .st (inlS tt ct n_mem_Mem_Byte k_mem_Mem_Byte rs_mem_Mem_Byte 60 (Try.f34.body.getD .skip))
theorem in_mem_Mem_Byte_ok {ct : CT} (h : CTok Try.prog ct) : EntOk Try.prog f_mem_Mem_Byte (in_mem_Mem_Byte ct) := inl_ok tt_ok h 60 fn_mem_Mem_Byte rfl nt_mem_Mem_Byte rfl cal_mem_Mem_Byte (by kernel_rfl)
@[match_pattern] abbrev f_mem_Mem_SetByte : Nat := 35
theorem fn_mem_Mem_SetByte : Try.prog.funcs[f_mem_Mem_SetByte]? = some Try.f35 := Try.func35
abbrev n_mem_Mem_SetByte : Nat := 21
theorem nt_mem_Mem_SetByte : Try.f35.ntmps = n_mem_Mem_SetByte := Try.ntmps35
abbrev k_mem_Mem_SetByte : List Nat := [0, 1, 2, 6, 7, 8, 16]
abbrev rs_mem_Mem_SetByte : List ResultVar := [.tmp 6]
theorem cal_mem_Mem_SetByte : Sx.Callee Try.prog f_mem_Mem_SetByte := ⟨_, Try.func35, by kernel_rfl, by kernel_rfl⟩
noncomputable abbrev in_mem_Mem_SetByte (ct : CT) : Ent := .st (inlS tt ct n_mem_Mem_SetByte k_mem_Mem_SetByte rs_mem_Mem_SetByte 60 (Try.f35.body.getD .skip))
theorem in_mem_Mem_SetByte_ok {ct : CT} (h : CTok Try.prog ct) : EntOk Try.prog f_mem_Mem_SetByte (in_mem_Mem_SetByte ct) := inl_ok tt_ok h 60 fn_mem_Mem_SetByte rfl nt_mem_Mem_SetByte rfl cal_mem_Mem_SetByte (by kernel_rfl)
@[match_pattern] abbrev f_mem_may : Nat := 36
theorem fn_mem_may : Try.prog.funcs[f_mem_may]? = some Try.f36 := Try.func36
abbrev n_mem_may : Nat := 14
theorem nt_mem_may : Try.f36.ntmps = n_mem_may := Try.ntmps36
abbrev k_mem_may : List Nat := [0, 2]
abbrev rs_mem_may : List ResultVar := [.tmp 2]
theorem cal_mem_may : Sx.Callee Try.prog f_mem_may := ⟨_, Try.func36, by kernel_rfl, by kernel_rfl⟩
noncomputable abbrev in_mem_may (ct : CT) : Ent := .st (inlS tt ct n_mem_may k_mem_may rs_mem_may 60 (Try.f36.body.getD .skip))
theorem in_mem_may_ok {ct : CT} (h : CTok Try.prog ct) : EntOk Try.prog f_mem_may (in_mem_may ct) := inl_ok tt_ok h 60 fn_mem_may rfl nt_mem_may rfl cal_mem_may (by kernel_rfl)
@[match_pattern] abbrev f_mem_Mem_none : Nat := 37
theorem fn_mem_Mem_none : Try.prog.funcs[f_mem_Mem_none]? = some Try.f37 := Try.func37
abbrev n_mem_Mem_none : Nat := 13
theorem nt_mem_Mem_none : Try.f37.ntmps = n_mem_Mem_none := Try.ntmps37
abbrev k_mem_Mem_none : List Nat := [0, 2]
abbrev rs_mem_Mem_none : List ResultVar := [.tmp 2]
theorem cal_mem_Mem_none : Sx.Callee Try.prog f_mem_Mem_none := ⟨_, Try.func37, by kernel_rfl, by kernel_rfl⟩
noncomputable abbrev in_mem_Mem_none (ct : CT) : Ent := .st (inlS tt ct n_mem_Mem_none k_mem_Mem_none rs_mem_Mem_none 60 (Try.f37.body.getD .skip))
theorem in_mem_Mem_none_ok {ct : CT} (h : CTok Try.prog ct) : EntOk Try.prog f_mem_Mem_none (in_mem_Mem_none ct) := inl_ok tt_ok h 60 fn_mem_Mem_none rfl nt_mem_Mem_none rfl cal_mem_Mem_none (by kernel_rfl)
@[match_pattern] abbrev f_mem_Mem_word : Nat := 38
theorem fn_mem_Mem_word : Try.prog.funcs[f_mem_Mem_word]? = some Try.f38 := Try.func38
abbrev n_mem_Mem_word : Nat := 12
theorem nt_mem_Mem_word : Try.f38.ntmps = n_mem_Mem_word := Try.ntmps38
abbrev k_mem_Mem_word : List Nat := [0, 1, 4, 5]
abbrev rs_mem_Mem_word : List ResultVar := [.tmp 4, .tmp 5]
theorem cal_mem_Mem_word : Sx.Callee Try.prog f_mem_Mem_word := ⟨_, Try.func38, by kernel_rfl, by kernel_rfl⟩
noncomputable abbrev in_mem_Mem_word (ct : CT) : Ent := .st (inlS tt ct n_mem_Mem_word k_mem_Mem_word rs_mem_Mem_word 60 (Try.f38.body.getD .skip))
theorem in_mem_Mem_word_ok {ct : CT} (h : CTok Try.prog ct) : EntOk Try.prog f_mem_Mem_word (in_mem_Mem_word ct) := inl_ok tt_ok h 60 fn_mem_Mem_word rfl nt_mem_Mem_word rfl cal_mem_Mem_word (by kernel_rfl)
@[match_pattern] abbrev f_r03_Lies : Nat := 39
theorem fn_r03_Lies : Try.prog.funcs[f_r03_Lies]? = some Try.f39 := Try.func39
abbrev n_r03_Lies : Nat := 24
theorem nt_r03_Lies : Try.f39.ntmps = n_r03_Lies := Try.ntmps39
abbrev k_r03_Lies : List Nat := [0, 1, 2, 6, 7]
abbrev rs_r03_Lies : List ResultVar := [.tmp 6]
theorem cal_r03_Lies : Sx.Callee Try.prog f_r03_Lies := ⟨_, Try.func39, by kernel_rfl, by kernel_rfl⟩
noncomputable abbrev in_r03_Lies (ct : CT) : Ent := .st (inlS tt ct n_r03_Lies k_r03_Lies rs_r03_Lies 60 (Try.f39.body.getD .skip))
theorem in_r03_Lies_ok {ct : CT} (h : CTok Try.prog ct) : EntOk Try.prog f_r03_Lies (in_r03_Lies ct) := inl_ok tt_ok h 60 fn_r03_Lies rfl nt_r03_Lies rfl cal_r03_Lies (by kernel_rfl)
@[match_pattern] abbrev f_r03_Index : Nat := 40
theorem fn_r03_Index : Try.prog.funcs[f_r03_Index]? = some Try.f40 := Try.func40
abbrev n_r03_Index : Nat := 6
theorem nt_r03_Index : Try.f40.ntmps = n_r03_Index := Try.ntmps40
abbrev k_r03_Index : List Nat := [0, 2]
abbrev rs_r03_Index : List ResultVar := [.tmp 2]
theorem cal_r03_Index : Sx.Callee Try.prog f_r03_Index := ⟨_, Try.func40, by kernel_rfl, by kernel_rfl⟩
noncomputable abbrev in_r03_Index (ct : CT) : Ent := .st (inlS tt ct n_r03_Index k_r03_Index rs_r03_Index 60 (Try.f40.body.getD .skip))
theorem in_r03_Index_ok {ct : CT} (h : CTok Try.prog ct) : EntOk Try.prog f_r03_Index (in_r03_Index ct) := inl_ok tt_ok h 60 fn_r03_Index rfl nt_r03_Index rfl cal_r03_Index (by kernel_rfl)
@[match_pattern] abbrev f_r03_SetByte : Nat := 41
theorem fn_r03_SetByte : Try.prog.funcs[f_r03_SetByte]? = some Try.f41 := Try.func41
abbrev n_r03_SetByte : Nat := 20
theorem nt_r03_SetByte : Try.f41.ntmps = n_r03_SetByte := Try.ntmps41
abbrev k_r03_SetByte : List Nat := [0, 1, 2, 6, 7, 12]
abbrev rs_r03_SetByte : List ResultVar := [.tmp 6, .tmp 7]
theorem cal_r03_SetByte : Sx.Callee Try.prog f_r03_SetByte := ⟨_, Try.func41, by kernel_rfl, by kernel_rfl⟩
noncomputable abbrev in_r03_SetByte (ct : CT) : Ent := .st (inlS tt ct n_r03_SetByte k_r03_SetByte rs_r03_SetByte 60 (Try.f41.body.getD .skip))
theorem in_r03_SetByte_ok {ct : CT} (h : CTok Try.prog ct) : EntOk Try.prog f_r03_SetByte (in_r03_SetByte ct) := inl_ok tt_ok h 60 fn_r03_SetByte rfl nt_r03_SetByte rfl cal_r03_SetByte (by kernel_rfl)
@[match_pattern] abbrev f_r03_SetWord : Nat := 42
theorem fn_r03_SetWord : Try.prog.funcs[f_r03_SetWord]? = some Try.f42 := Try.func42
abbrev n_r03_SetWord : Nat := 25
theorem nt_r03_SetWord : Try.f42.ntmps = n_r03_SetWord := Try.ntmps42
abbrev k_r03_SetWord : List Nat := [0, 1, 2, 6, 7, 8, 13]
abbrev rs_r03_SetWord : List ResultVar := [.tmp 6, .tmp 7]
theorem cal_r03_SetWord : Sx.Callee Try.prog f_r03_SetWord := ⟨_, Try.func42, by kernel_rfl, by kernel_rfl⟩
noncomputable abbrev in_r03_SetWord (ct : CT) : Ent := .st (inlS tt ct n_r03_SetWord k_r03_SetWord rs_r03_SetWord 60 (Try.f42.body.getD .skip))
theorem in_r03_SetWord_ok {ct : CT} (h : CTok Try.prog ct) : EntOk Try.prog f_r03_SetWord (in_r03_SetWord ct) := inl_ok tt_ok h 60 fn_r03_SetWord rfl nt_r03_SetWord rfl cal_r03_SetWord (by kernel_rfl)
@[match_pattern] abbrev f_r03_Write : Nat := 43
theorem fn_r03_Write : Try.prog.funcs[f_r03_Write]? = some Try.f43 := Try.func43
abbrev n_r03_Write : Nat := 25
theorem nt_r03_Write : Try.f43.ntmps = n_r03_Write := Try.ntmps43
abbrev k_r03_Write : List Nat := [0, 1, 2, 6, 7, 10, 18]
abbrev rs_r03_Write : List ResultVar := [.tmp 6, .tmp 7]
theorem cal_r03_Write : Sx.Callee Try.prog f_r03_Write := ⟨_, Try.func43, by kernel_rfl, by kernel_rfl⟩
noncomputable abbrev in_r03_Write (ct : CT) : Ent := .st (inlS tt ct n_r03_Write k_r03_Write rs_r03_Write 60 (Try.f43.body.getD .skip))
theorem in_r03_Write_ok {ct : CT} (h : CTok Try.prog ct) : EntOk Try.prog f_r03_Write (in_r03_Write ct) := inl_ok tt_ok h 60 fn_r03_Write rfl nt_r03_Write rfl cal_r03_Write (by kernel_rfl)
@[match_pattern] abbrev f_r03_Move : Nat := 44
theorem fn_r03_Move : Try.prog.funcs[f_r03_Move]? = some Try.f44 := Try.func44
abbrev n_r03_Move : Nat := 31
theorem nt_r03_Move : Try.f44.ntmps = n_r03_Move := Try.ntmps44
abbrev k_r03_Move : List Nat := [0, 1, 2, 3, 8, 9, 10, 11, 22]
abbrev rs_r03_Move : List ResultVar := [.tmp 8, .tmp 9]
theorem cal_r03_Move : Sx.Callee Try.prog f_r03_Move := ⟨_, Try.func44, by kernel_rfl, by kernel_rfl⟩
noncomputable abbrev in_r03_Move (ct : CT) : Ent := .st (inlS tt ct n_r03_Move k_r03_Move rs_r03_Move 60 (Try.f44.body.getD .skip))
theorem in_r03_Move_ok {ct : CT} (h : CTok Try.prog ct) : EntOk Try.prog f_r03_Move (in_r03_Move ct) := inl_ok tt_ok h 60 fn_r03_Move rfl nt_r03_Move rfl cal_r03_Move (by kernel_rfl)
@[match_pattern] abbrev f_r03_Read : Nat := 45
theorem fn_r03_Read : Try.prog.funcs[f_r03_Read]? = some Try.f45 := Try.func45
abbrev n_r03_Read : Nat := 29
theorem nt_r03_Read : Try.f45.ntmps = n_r03_Read := Try.ntmps45
abbrev k_r03_Read : List Nat := [0, 1, 2, 6, 7, 8, 10, 12, 18]
abbrev rs_r03_Read : List ResultVar := [.tmp 6, .tmp 7]
theorem cal_r03_Read : Sx.Callee Try.prog f_r03_Read := ⟨_, Try.func45, by kernel_rfl, by kernel_rfl⟩
noncomputable abbrev in_r03_Read (ct : CT) : Ent := .st (inlS tt ct n_r03_Read k_r03_Read rs_r03_Read 60 (Try.f45.body.getD .skip))
theorem in_r03_Read_ok {ct : CT} (h : CTok Try.prog ct) : EntOk Try.prog f_r03_Read (in_r03_Read ct) := inl_ok tt_ok h 60 fn_r03_Read rfl nt_r03_Read rfl cal_r03_Read (by kernel_rfl)
@[match_pattern] abbrev f_r03_Byte : Nat := 46
theorem fn_r03_Byte : Try.prog.funcs[f_r03_Byte]? = some Try.f46 := Try.func46
abbrev n_r03_Byte : Nat := 16
theorem nt_r03_Byte : Try.f46.ntmps = n_r03_Byte := Try.ntmps46
abbrev k_r03_Byte : List Nat := [0, 1, 4, 5, 10]
abbrev rs_r03_Byte : List ResultVar := [.tmp 4, .tmp 5]
theorem cal_r03_Byte : Sx.Callee Try.prog f_r03_Byte := ⟨_, Try.func46, by kernel_rfl, by kernel_rfl⟩
noncomputable abbrev in_r03_Byte (ct : CT) : Ent := .st (inlS tt ct n_r03_Byte k_r03_Byte rs_r03_Byte 60 (Try.f46.body.getD .skip))
theorem in_r03_Byte_ok {ct : CT} (h : CTok Try.prog ct) : EntOk Try.prog f_r03_Byte (in_r03_Byte ct) := inl_ok tt_ok h 60 fn_r03_Byte rfl nt_r03_Byte rfl cal_r03_Byte (by kernel_rfl)
@[match_pattern] abbrev f_mem_Mem_span : Nat := 47
theorem fn_mem_Mem_span : Try.prog.funcs[f_mem_Mem_span]? = some Try.f47 := Try.func47
abbrev n_mem_Mem_span : Nat := 44
theorem nt_mem_Mem_span : Try.f47.ntmps = n_mem_Mem_span := Try.ntmps47
abbrev k_mem_Mem_span : List Nat := [0, 1, 2, 6, 7, 8, 10, 31]
abbrev rs_mem_Mem_span : List ResultVar := [.tmp 6, .tmp 7]
theorem cal_mem_Mem_span : Sx.Callee Try.prog f_mem_Mem_span := ⟨_, Try.func47, by kernel_rfl, by kernel_rfl⟩
noncomputable abbrev in_mem_Mem_span (ct : CT) : Ent := .st (inlS tt ct n_mem_Mem_span k_mem_Mem_span rs_mem_Mem_span 60 (Try.f47.body.getD .skip))
theorem in_mem_Mem_span_ok {ct : CT} (h : CTok Try.prog ct) : EntOk Try.prog f_mem_Mem_span (in_mem_Mem_span ct) := inl_ok tt_ok h 60 fn_mem_Mem_span rfl nt_mem_Mem_span rfl cal_mem_Mem_span (by kernel_rfl)
@[match_pattern] abbrev f_r03_put : Nat := 48
theorem fn_r03_put : Try.prog.funcs[f_r03_put]? = some Try.f48 := Try.func48
abbrev n_r03_put : Nat := 24
theorem nt_r03_put : Try.f48.ntmps = n_r03_put := Try.ntmps48
abbrev k_r03_put : List Nat := [0, 1, 2, 6, 7]
abbrev rs_r03_put : List ResultVar := [.tmp 6]
theorem cal_r03_put : Sx.Callee Try.prog f_r03_put := ⟨_, Try.func48, by kernel_rfl, by kernel_rfl⟩
noncomputable abbrev in_r03_put (ct : CT) : Ent := .st (inlS tt ct n_r03_put k_r03_put rs_r03_put 60 (Try.f48.body.getD .skip))
theorem in_r03_put_ok {ct : CT} (h : CTok Try.prog ct) : EntOk Try.prog f_r03_put (in_r03_put ct) := inl_ok tt_ok h 60 fn_r03_put rfl nt_r03_put rfl cal_r03_put (by kernel_rfl)
@[match_pattern] abbrev f_r03_Four : Nat := 49
theorem fn_r03_Four : Try.prog.funcs[f_r03_Four]? = some Try.f49 := Try.func49
abbrev n_r03_Four : Nat := 18
theorem nt_r03_Four : Try.f49.ntmps = n_r03_Four := Try.ntmps49
abbrev k_r03_Four : List Nat := [0, 2, 3]
abbrev rs_r03_Four : List ResultVar := [.tmp 2]
theorem cal_r03_Four : Sx.Callee Try.prog f_r03_Four := ⟨_, Try.func49, by kernel_rfl, by kernel_rfl⟩
noncomputable abbrev in_r03_Four (ct : CT) : Ent := .st (inlS tt ct n_r03_Four k_r03_Four rs_r03_Four 60 (Try.f49.body.getD .skip))
theorem in_r03_Four_ok {ct : CT} (h : CTok Try.prog ct) : EntOk Try.prog f_r03_Four (in_r03_Four ct) := inl_ok tt_ok h 60 fn_r03_Four rfl nt_r03_Four rfl cal_r03_Four (by kernel_rfl)
end Go.Proofs
