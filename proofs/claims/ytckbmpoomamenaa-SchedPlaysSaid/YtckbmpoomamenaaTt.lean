/- Types, slots and numbers of this seat's functions (printed by a program). -/
import Derived.Test.YtckbmpoomamenaaSxC
import Derived.Test.YtckbmpoomamenaaProg

namespace Go.Proofs
open Go Go.Sx
def ti3 : TI := { size := 1, zv := .int .i64 0, agg := false, kd := .int .i64 }
theorem tok3 : TIok Try.prog 3 ti3 := ⟨by kernel_rfl, by kernel_rfl, by kernel_rfl, by kernel_rfl, fun _ h => by cases h⟩
def ti4 : TI := { size := 1, zv := .bool false, agg := false, kd := .bool }
theorem tok4 : TIok Try.prog 4 ti4 := ⟨by kernel_rfl, by kernel_rfl, by kernel_rfl, by kernel_rfl, fun _ h => by cases h⟩
def ti5 : TI := { size := 1, zv := .int .u8 0, agg := false, kd := .int .u8 }
theorem tok5 : TIok Try.prog 5 ti5 := ⟨by kernel_rfl, by kernel_rfl, by kernel_rfl, by kernel_rfl, fun _ h => by cases h⟩
def ti9 : TI := { size := 1, zv := .string ByteArray.empty, agg := false, kd := .str }
theorem tok9 : TIok Try.prog 9 ti9 := ⟨by kernel_rfl, by kernel_rfl, by kernel_rfl, by kernel_rfl, fun _ h => by cases h⟩
def ti21 : TI := { size := 1, zv := .int .i32 0, agg := false, kd := .int .i32 }
theorem tok21 : TIok Try.prog 21 ti21 := ⟨by kernel_rfl, by kernel_rfl, by kernel_rfl, by kernel_rfl, fun _ h => by cases h⟩
def ti22 : TI := { size := 1, zv := .slice none 0 0, agg := false, kd := .slice 5 1 1 }
theorem tok22 : TIok Try.prog 22 ti22 := ⟨by kernel_rfl, by kernel_rfl, by kernel_rfl, by kernel_rfl, fun _ h => by cases h⟩
def ti24 : TI := { size := 1, zv := .pointer none, agg := false, kd := .ptr }
theorem tok24 : TIok Try.prog 24 ti24 := ⟨by kernel_rfl, by kernel_rfl, by kernel_rfl, by kernel_rfl, fun _ h => by cases h⟩
def ti25 : TI := { size := 1, zv := .int .i64 0, agg := false, kd := .int .i64 }
theorem tok25 : TIok Try.prog 25 ti25 := ⟨by kernel_rfl, by kernel_rfl, by kernel_rfl, by kernel_rfl, fun _ h => by cases h⟩
def ti28 : TI := { size := 2, zv := .agg #[.int .i32 0, .int .i32 0], agg := true, kd := .arr 2 1 false }
theorem tok28 : TIok Try.prog 28 ti28 := ⟨by kernel_rfl, by kernel_rfl, by kernel_rfl, by kernel_rfl, fun _ h => by cases h⟩
def ti30 : TI := { size := 8, zv := .agg #[.bool false, .int .i32 0, .int .i32 0, .int .i32 0, .int .i32 0, .int .i32 0, .bool false, .int .i32 0], agg := true, kd := .struct [(0, (1, false)), (1, (1, false)), (2, (1, false)), (3, (1, false)), (4, (1, false)), (5, (1, false)), (6, (1, false)), (7, (1, false))], flat := some [none, some .i32, some .i32, some .i32, some .i32, some .i32, none, some .i32] }
theorem tok30 : TIok Try.prog 30 ti30 := ⟨by kernel_rfl, by kernel_rfl, by kernel_rfl, by kernel_rfl, fun _ h => by cases h; exact flatEq_of (by kernel_rfl) (by kernel_rfl) (by kernel_rfl)⟩
def ti32 : TI := { size := 28, zv := .agg #[.int .i32 0, .int .i32 0, .int .i32 0, .int .i32 0, .int .i32 0, .int .i64 0, .bool false, .bool false, .bool false, .bool false, .int .i32 0, .int .i32 0, .int .i32 0, .int .i32 0, .int .i32 0, .int .i32 0, .int .i32 0, .int .i32 0, .int .i32 0, .int .i32 0, .bool false, .int .i32 0, .int .i32 0, .int .i32 0, .int .i32 0, .int .i32 0, .bool false, .int .i32 0], agg := true, kd := .struct [(0, (1, false)), (1, (1, false)), (2, (1, false)), (3, (1, false)), (4, (1, false)), (5, (1, false)), (6, (1, false)), (7, (1, false)), (8, (1, false)), (9, (1, false)), (10, (2, true)), (12, (2, true)), (14, (2, true)), (16, (2, true)), (18, (1, false)), (19, (1, false)), (20, (8, true))], flat := some [some .i32, some .i32, some .i32, some .i32, some .i32, some .i64, none, none, none, none, some .i32, some .i32, some .i32, some .i32, some .i32, some .i32, some .i32, some .i32, some .i32, some .i32, none, some .i32, some .i32, some .i32, some .i32, some .i32, none, some .i32] }
theorem tok32 : TIok Try.prog 32 ti32 := ⟨by kernel_rfl, by kernel_rfl, by kernel_rfl, by kernel_rfl, fun _ h => by cases h; exact flatEq_of (by kernel_rfl) (by kernel_rfl) (by kernel_rfl)⟩
def ti34 : TI := { size := 1, zv := .slice none 0 0, agg := false, kd := .slice 21 1 4 }
theorem tok34 : TIok Try.prog 34 ti34 := ⟨by kernel_rfl, by kernel_rfl, by kernel_rfl, by kernel_rfl, fun _ h => by cases h⟩
def ti35 : TI := { size := 1, zv := .slice none 0 0, agg := false, kd := .slice 4 1 1 }
theorem tok35 : TIok Try.prog 35 ti35 := ⟨by kernel_rfl, by kernel_rfl, by kernel_rfl, by kernel_rfl, fun _ h => by cases h⟩
def ti45 : TI := { size := 1, zv := .nilFunc, agg := false, kd := .fn }
theorem tok45 : TIok Try.prog 45 ti45 := ⟨by kernel_rfl, by kernel_rfl, by kernel_rfl, by kernel_rfl, fun _ h => by cases h⟩
def ti48 : TI := { size := 2, zv := .agg #[.int .u8 0, .int .i32 0], agg := true, kd := .struct [(0, (1, false)), (1, (1, false))] }
theorem tok48 : TIok Try.prog 48 ti48 := ⟨by kernel_rfl, by kernel_rfl, by kernel_rfl, by kernel_rfl, fun _ h => by cases h⟩
def ti52 : TI := { size := 1, zv := .agg #[.slice none 0 0], agg := true, kd := .struct [(0, (1, false))] }
theorem tok52 : TIok Try.prog 52 ti52 := ⟨by kernel_rfl, by kernel_rfl, by kernel_rfl, by kernel_rfl, fun _ h => by cases h⟩
def ti54 : TI := { size := 1, zv := .slice none 0 0, agg := false, kd := .slice 56 3 3 }
theorem tok54 : TIok Try.prog 54 ti54 := ⟨by kernel_rfl, by kernel_rfl, by kernel_rfl, by kernel_rfl, fun _ h => by cases h⟩
def ti56 : TI := { size := 3, zv := .agg #[.int .u8 0, .int .u8 0, .int .u8 0], agg := true, kd := .struct [(0, (1, false)), (1, (1, false)), (2, (1, false))] }
theorem tok56 : TIok Try.prog 56 ti56 := ⟨by kernel_rfl, by kernel_rfl, by kernel_rfl, by kernel_rfl, fun _ h => by cases h⟩
def ti65 : TI := { size := 1, zv := .slice none 0 0, agg := false, kd := .slice 70 6 32 }
theorem tok65 : TIok Try.prog 65 ti65 := ⟨by kernel_rfl, by kernel_rfl, by kernel_rfl, by kernel_rfl, fun _ h => by cases h⟩
def ti70 : TI := { size := 6, zv := .agg #[.int .u8 0, .int .i32 0, .int .i32 0, .int .i64 0, .int .u8 0, .int .i32 0], agg := true, kd := .struct [(0, (1, false)), (1, (1, false)), (2, (1, false)), (3, (1, false)), (4, (2, true))] }
theorem tok70 : TIok Try.prog 70 ti70 := ⟨by kernel_rfl, by kernel_rfl, by kernel_rfl, by kernel_rfl, fun _ h => by cases h⟩
def ti77 : TI := { size := 1, zv := .nilFunc, agg := false, kd := .fn }
theorem tok77 : TIok Try.prog 77 ti77 := ⟨by kernel_rfl, by kernel_rfl, by kernel_rfl, by kernel_rfl, fun _ h => by cases h⟩
def ti78 : TI := { size := 1, zv := .nilFunc, agg := false, kd := .fn }
theorem tok78 : TIok Try.prog 78 ti78 := ⟨by kernel_rfl, by kernel_rfl, by kernel_rfl, by kernel_rfl, fun _ h => by cases h⟩
def ti83 : TI := { size := 1, zv := .map none, agg := false, kd := .mapi .i32 (.nilFunc) }
theorem tok83 : TIok Try.prog 83 ti83 := ⟨by kernel_rfl, by kernel_rfl, by kernel_rfl, by kernel_rfl, fun _ h => by cases h⟩
def ti87 : TI := { size := 1, zv := .int .u32 0, agg := false, kd := .int .u32 }
theorem tok87 : TIok Try.prog 87 ti87 := ⟨by kernel_rfl, by kernel_rfl, by kernel_rfl, by kernel_rfl, fun _ h => by cases h⟩
def ti105 : TI := { size := 1, zv := .nilFunc, agg := false, kd := .fn }
theorem tok105 : TIok Try.prog 105 ti105 := ⟨by kernel_rfl, by kernel_rfl, by kernel_rfl, by kernel_rfl, fun _ h => by cases h⟩
abbrev tt : TT := [(3, ti3), (4, ti4), (5, ti5), (9, ti9), (21, ti21), (22, ti22), (24, ti24), (25, ti25), (28, ti28), (30, ti30), (32, ti32), (34, ti34), (35, ti35), (45, ti45), (48, ti48), (52, ti52), (54, ti54), (56, ti56), (65, ti65), (70, ti70), (77, ti77), (78, ti78), (83, ti83), (87, ti87), (105, ti105)]
theorem tt_ok : TTok Try.prog tt := ⟨tok3, tok4, tok5, tok9, tok21, tok22, tok24, tok25, tok28, tok30, tok32, tok34, tok35, tok45, tok48, tok52, tok54, tok56, tok65, tok70, tok77, tok78, tok83, tok87, tok105, (show Try.prog.follows .mixedOrders = true by kernel_rfl)⟩
@[match_pattern] abbrev f_l29_SchedOrder : Nat := 3
theorem fn_l29_SchedOrder : Try.prog.funcs[f_l29_SchedOrder]? = some Try.f3 := Try.func3
abbrev n_l29_SchedOrder : Nat := 139
theorem nt_l29_SchedOrder : Try.f3.ntmps = n_l29_SchedOrder := Try.ntmps3
abbrev k_l29_SchedOrder : List Nat := [0, 1, 4, 5, 7, 8, 9, 10, 11, 12, 13, 14, 15, 16, 17, 18, 19, 22, 33, 44, 56, 72, 93, 97, 117]
abbrev rs_l29_SchedOrder : List ResultVar := [.tmp 4]
theorem cal_l29_SchedOrder : Sx.Callee Try.prog f_l29_SchedOrder := ⟨_, Try.func3, by kernel_rfl, by kernel_rfl⟩
noncomputable abbrev in_l29_SchedOrder (ct : CT) : Ent := .st (inlS tt ct n_l29_SchedOrder k_l29_SchedOrder rs_l29_SchedOrder 60 (Try.f3.body.getD .skip))
theorem in_l29_SchedOrder_ok {ct : CT} (h : CTok Try.prog ct) : EntOk Try.prog f_l29_SchedOrder (in_l29_SchedOrder ct) := inl_ok tt_ok h 60 fn_l29_SchedOrder rfl nt_l29_SchedOrder rfl cal_l29_SchedOrder (by kernel_rfl)
@[match_pattern] abbrev f_l29_SchedInterrupt : Nat := 4
theorem fn_l29_SchedInterrupt : Try.prog.funcs[f_l29_SchedInterrupt]? = some Try.f4 := Try.func4
abbrev n_l29_SchedInterrupt : Nat := 137
theorem nt_l29_SchedInterrupt : Try.f4.ntmps = n_l29_SchedInterrupt := Try.ntmps4
abbrev k_l29_SchedInterrupt : List Nat := [0, 1, 2, 3, 4, 5, 6, 14, 15, 17, 18, 19, 20, 21, 22, 23, 24, 25, 26, 27, 28, 58, 70, 74, 106, 119]
abbrev rs_l29_SchedInterrupt : List ResultVar := [.tmp 14]
theorem cal_l29_SchedInterrupt : Sx.Callee Try.prog f_l29_SchedInterrupt := ⟨_, Try.func4, by kernel_rfl, by kernel_rfl⟩
noncomputable abbrev in_l29_SchedInterrupt (ct : CT) : Ent := .st (inlS tt ct n_l29_SchedInterrupt k_l29_SchedInterrupt rs_l29_SchedInterrupt 60 (Try.f4.body.getD .skip))
theorem in_l29_SchedInterrupt_ok {ct : CT} (h : CTok Try.prog ct) : EntOk Try.prog f_l29_SchedInterrupt (in_l29_SchedInterrupt ct) := inl_ok tt_ok h 60 fn_l29_SchedInterrupt rfl nt_l29_SchedInterrupt rfl cal_l29_SchedInterrupt (by kernel_rfl)
@[match_pattern] abbrev f_l29_SchedNone : Nat := 5
theorem fn_l29_SchedNone : Try.prog.funcs[f_l29_SchedNone]? = some Try.f5 := Try.func5
abbrev n_l29_SchedNone : Nat := 145
theorem nt_l29_SchedNone : Try.f5.ntmps = n_l29_SchedNone := Try.ntmps5
abbrev k_l29_SchedNone : List Nat := [0, 1, 2, 3, 4, 7, 8, 9, 10, 11, 12, 13, 14, 15, 16, 17, 18, 19, 20, 21, 22, 23, 24, 25, 26, 27, 29, 143]
abbrev rs_l29_SchedNone : List ResultVar := [.tmp 8]
theorem cal_l29_SchedNone : Sx.Callee Try.prog f_l29_SchedNone := ⟨_, Try.func5, by kernel_rfl, by kernel_rfl⟩
noncomputable abbrev in_l29_SchedNone (ct : CT) : Ent := .st (inlS tt ct n_l29_SchedNone k_l29_SchedNone rs_l29_SchedNone 60 (Try.f5.body.getD .skip))
theorem in_l29_SchedNone_ok {ct : CT} (h : CTok Try.prog ct) : EntOk Try.prog f_l29_SchedNone (in_l29_SchedNone ct) := inl_ok tt_ok h 60 fn_l29_SchedNone rfl nt_l29_SchedNone rfl cal_l29_SchedNone (by kernel_rfl)
@[match_pattern] abbrev f_l29_SchedOnce : Nat := 6
theorem fn_l29_SchedOnce : Try.prog.funcs[f_l29_SchedOnce]? = some Try.f6 := Try.func6
abbrev n_l29_SchedOnce : Nat := 119
theorem nt_l29_SchedOnce : Try.f6.ntmps = n_l29_SchedOnce := Try.ntmps6
abbrev k_l29_SchedOnce : List Nat := [0, 2, 3, 5, 6, 7, 8, 9, 10, 11, 12, 13, 14, 15, 18, 29, 76, 79, 88, 103, 110, 117]
abbrev rs_l29_SchedOnce : List ResultVar := [.tmp 2]
theorem cal_l29_SchedOnce : Sx.Callee Try.prog f_l29_SchedOnce := ⟨_, Try.func6, by kernel_rfl, by kernel_rfl⟩
noncomputable abbrev in_l29_SchedOnce (ct : CT) : Ent := .st (inlS tt ct n_l29_SchedOnce k_l29_SchedOnce rs_l29_SchedOnce 60 (Try.f6.body.getD .skip))
theorem in_l29_SchedOnce_ok {ct : CT} (h : CTok Try.prog ct) : EntOk Try.prog f_l29_SchedOnce (in_l29_SchedOnce ct) := inl_ok tt_ok h 60 fn_l29_SchedOnce rfl nt_l29_SchedOnce rfl cal_l29_SchedOnce (by kernel_rfl)
@[match_pattern] abbrev f_l29_SchedTurns : Nat := 7
theorem fn_l29_SchedTurns : Try.prog.funcs[f_l29_SchedTurns]? = some Try.f7 := Try.func7
abbrev n_l29_SchedTurns : Nat := 127
theorem nt_l29_SchedTurns : Try.f7.ntmps = n_l29_SchedTurns := Try.ntmps7
abbrev k_l29_SchedTurns : List Nat := [0, 1, 4, 5, 6, 8, 9, 10, 11, 12, 13, 14, 15, 16, 17, 30, 43, 49, 78, 92, 124]
abbrev rs_l29_SchedTurns : List ResultVar := [.tmp 4]
theorem cal_l29_SchedTurns : Sx.Callee Try.prog f_l29_SchedTurns := ⟨_, Try.func7, by kernel_rfl, by kernel_rfl⟩
noncomputable abbrev in_l29_SchedTurns (ct : CT) : Ent := .st (inlS tt ct n_l29_SchedTurns k_l29_SchedTurns rs_l29_SchedTurns 60 (Try.f7.body.getD .skip))
theorem in_l29_SchedTurns_ok {ct : CT} (h : CTok Try.prog ct) : EntOk Try.prog f_l29_SchedTurns (in_l29_SchedTurns ct) := inl_ok tt_ok h 60 fn_l29_SchedTurns rfl nt_l29_SchedTurns rfl cal_l29_SchedTurns (by kernel_rfl)
@[match_pattern] abbrev f_l29_SchedPlays : Nat := 8
theorem fn_l29_SchedPlays : Try.prog.funcs[f_l29_SchedPlays]? = some Try.f8 := Try.func8
abbrev n_l29_SchedPlays : Nat := 71
theorem nt_l29_SchedPlays : Try.f8.ntmps = n_l29_SchedPlays := Try.ntmps8
abbrev k_l29_SchedPlays : List Nat := [0, 1, 2, 3, 6, 7, 8, 9, 10, 18, 26, 31, 69]
abbrev rs_l29_SchedPlays : List ResultVar := [.tmp 6]
theorem cal_l29_SchedPlays : Sx.Callee Try.prog f_l29_SchedPlays := ⟨_, Try.func8, by kernel_rfl, by kernel_rfl⟩
noncomputable abbrev in_l29_SchedPlays (ct : CT) : Ent := .st (inlS tt ct n_l29_SchedPlays k_l29_SchedPlays rs_l29_SchedPlays 60 (Try.f8.body.getD .skip))
theorem in_l29_SchedPlays_ok {ct : CT} (h : CTok Try.prog ct) : EntOk Try.prog f_l29_SchedPlays (in_l29_SchedPlays ct) := inl_ok tt_ok h 60 fn_l29_SchedPlays rfl nt_l29_SchedPlays rfl cal_l29_SchedPlays (by kernel_rfl)
@[match_pattern] abbrev f_l29_head : Nat := 9
theorem fn_l29_head : Try.prog.funcs[f_l29_head]? = some Try.f9 := Try.func9
abbrev n_l29_head : Nat := 224
theorem nt_l29_head : Try.f9.ntmps = n_l29_head := Try.ntmps9
abbrev k_l29_head : List Nat := [0, 1, 3, 4, 5, 6, 7, 8, 9, 10, 11, 12, 13, 14, 15, 16, 17, 18, 21, 24]
abbrev rs_l29_head : List ResultVar := [.tmp 0]
theorem cal_l29_head : Sx.Callee Try.prog f_l29_head := ⟨_, Try.func9, by kernel_rfl, by kernel_rfl⟩
noncomputable abbrev in_l29_head (ct : CT) : Ent := .st (inlS tt ct n_l29_head k_l29_head rs_l29_head 60 (Try.f9.body.getD .skip))
theorem in_l29_head_ok {ct : CT} (h : CTok Try.prog ct) : EntOk Try.prog f_l29_head (in_l29_head ct) := inl_ok tt_ok h 60 fn_l29_head rfl nt_l29_head rfl cal_l29_head (by kernel_rfl)
@[match_pattern] abbrev f_mem_New : Nat := 10
theorem fn_mem_New : Try.prog.funcs[f_mem_New]? = some Try.f10 := Try.func10
abbrev n_mem_New : Nat := 11
theorem nt_mem_New : Try.f10.ntmps = n_mem_New := Try.ntmps10
abbrev k_mem_New : List Nat := [0, 2, 3, 6]
abbrev rs_mem_New : List ResultVar := [.tmp 2, .tmp 3]
theorem cal_mem_New : Sx.Callee Try.prog f_mem_New := ⟨_, Try.func10, by kernel_rfl, by kernel_rfl⟩
noncomputable abbrev in_mem_New (ct : CT) : Ent := .st (inlS tt ct n_mem_New k_mem_New rs_mem_New 60 (Try.f10.body.getD .skip))
theorem in_mem_New_ok {ct : CT} (h : CTok Try.prog ct) : EntOk Try.prog f_mem_New (in_mem_New ct) := inl_ok tt_ok h 60 fn_mem_New rfl nt_mem_New rfl cal_mem_New (by kernel_rfl)
@[match_pattern] abbrev f_r29_Reset : Nat := 11
theorem fn_r29_Reset : Try.prog.funcs[f_r29_Reset]? = some Try.f11 := Try.func11
abbrev n_r29_Reset : Nat := 17
theorem nt_r29_Reset : Try.f11.ntmps = n_r29_Reset := Try.ntmps11
abbrev k_r29_Reset : List Nat := [0, 1, 2, 4]
abbrev rs_r29_Reset : List ResultVar := [.cell 0 32]
theorem cal_r29_Reset : Sx.Callee Try.prog f_r29_Reset := ⟨_, Try.func11, by kernel_rfl, by kernel_rfl⟩
noncomputable abbrev in_r29_Reset (ct : CT) : Ent := .st (inlS tt ct n_r29_Reset k_r29_Reset rs_r29_Reset 60 (Try.f11.body.getD .skip))
theorem in_r29_Reset_ok {ct : CT} (h : CTok Try.prog ct) : EntOk Try.prog f_r29_Reset (in_r29_Reset ct) := inl_ok tt_ok h 60 fn_r29_Reset rfl nt_r29_Reset rfl cal_r29_Reset (by kernel_rfl)
@[match_pattern] abbrev f_sched_Append : Nat := 12
theorem fn_sched_Append : Try.prog.funcs[f_sched_Append]? = some Try.f12 := Try.func12
abbrev n_sched_Append : Nat := 59
theorem nt_sched_Append : Try.f12.ntmps = n_sched_Append := Try.ntmps12
abbrev k_sched_Append : List Nat := [0, 1, 2, 3, 6, 7, 8, 9, 10, 12, 39, 41]
abbrev rs_sched_Append : List ResultVar := [.cell 6 32, .tmp 7]
theorem cal_sched_Append : Sx.Callee Try.prog f_sched_Append := ⟨_, Try.func12, by kernel_rfl, by kernel_rfl⟩
noncomputable abbrev in_sched_Append (ct : CT) : Ent := .st (inlS tt ct n_sched_Append k_sched_Append rs_sched_Append 60 (Try.f12.body.getD .skip))
theorem in_sched_Append_ok {ct : CT} (h : CTok Try.prog ct) : EntOk Try.prog f_sched_Append (in_sched_Append ct) := inl_ok tt_ok h 60 fn_sched_Append rfl nt_sched_Append rfl cal_sched_Append (by kernel_rfl)
@[match_pattern] abbrev f_l29_space : Nat := 13
theorem fn_l29_space : Try.prog.funcs[f_l29_space]? = some Try.f13 := Try.func13
abbrev n_l29_space : Nat := 7
theorem nt_l29_space : Try.f13.ntmps = n_l29_space := Try.ntmps13
abbrev k_l29_space : List Nat := [0, 2]
abbrev rs_l29_space : List ResultVar := [.tmp 2]
theorem cal_l29_space : Sx.Callee Try.prog f_l29_space := ⟨_, Try.func13, by kernel_rfl, by kernel_rfl⟩
noncomputable abbrev in_l29_space (ct : CT) : Ent := .st (inlS tt ct n_l29_space k_l29_space rs_l29_space 60 (Try.f13.body.getD .skip))
theorem in_l29_space_ok {ct : CT} (h : CTok Try.prog ct) : EntOk Try.prog f_l29_space (in_l29_space ct) := inl_ok tt_ok h 60 fn_l29_space rfl nt_l29_space rfl cal_l29_space (by kernel_rfl)
@[match_pattern] abbrev f_sched_Queue : Nat := 14
theorem fn_sched_Queue : Try.prog.funcs[f_sched_Queue]? = some Try.f14 := Try.func14
abbrev n_sched_Queue : Nat := 34
theorem nt_sched_Queue : Try.f14.ntmps = n_sched_Queue := Try.ntmps14
abbrev k_sched_Queue : List Nat := [0, 1, 2, 3, 6, 7, 8, 9, 10, 12, 15, 19, 20, 21, 28]
abbrev rs_sched_Queue : List ResultVar := [.cell 6 34, .cell 7 25]
theorem cal_sched_Queue : Sx.Callee Try.prog f_sched_Queue := ⟨_, Try.func14, by kernel_rfl, by kernel_rfl⟩
noncomputable abbrev in_sched_Queue (ct : CT) : Ent := .st (inlS tt ct n_sched_Queue k_sched_Queue rs_sched_Queue 60 (Try.f14.body.getD .skip))
theorem in_sched_Queue_ok {ct : CT} (h : CTok Try.prog ct) : EntOk Try.prog f_sched_Queue (in_sched_Queue ct) := inl_ok tt_ok h 60 fn_sched_Queue rfl nt_sched_Queue rfl cal_sched_Queue (by kernel_rfl)
@[match_pattern] abbrev f_r29_Same : Nat := 15
theorem fn_r29_Same : Try.prog.funcs[f_r29_Same]? = some Try.f15 := Try.func15
abbrev n_r29_Same : Nat := 26
theorem nt_r29_Same : Try.f15.ntmps = n_r29_Same := Try.ntmps15
abbrev k_r29_Same : List Nat := [0, 1, 4, 5, 10, 14, 25]
abbrev rs_r29_Same : List ResultVar := [.tmp 4]
theorem cal_r29_Same : Sx.Callee Try.prog f_r29_Same := ⟨_, Try.func15, by kernel_rfl, by kernel_rfl⟩
noncomputable abbrev in_r29_Same (ct : CT) : Ent := .st (inlS tt ct n_r29_Same k_r29_Same rs_r29_Same 60 (Try.f15.body.getD .skip))
theorem in_r29_Same_ok {ct : CT} (h : CTok Try.prog ct) : EntOk Try.prog f_r29_Same (in_r29_Same ct) := inl_ok tt_ok h 60 fn_r29_Same rfl nt_r29_Same rfl cal_r29_Same (by kernel_rfl)
@[match_pattern] abbrev f_sched_Take : Nat := 16
theorem fn_sched_Take : Try.prog.funcs[f_sched_Take]? = some Try.f16 := Try.func16
abbrev n_sched_Take : Nat := 58
theorem nt_sched_Take : Try.f16.ntmps = n_sched_Take := Try.ntmps16
abbrev k_sched_Take : List Nat := [0, 1, 2, 3, 6, 7, 8, 9, 13, 18, 25, 43]
abbrev rs_sched_Take : List ResultVar := [.cell 6 32, .tmp 7, .tmp 8]
theorem cal_sched_Take : Sx.Callee Try.prog f_sched_Take := ⟨_, Try.func16, by kernel_rfl, by kernel_rfl⟩
noncomputable abbrev in_sched_Take (ct : CT) : Ent := .st (inlS tt ct n_sched_Take k_sched_Take rs_sched_Take 60 (Try.f16.body.getD .skip))
theorem in_sched_Take_ok {ct : CT} (h : CTok Try.prog ct) : EntOk Try.prog f_sched_Take (in_sched_Take ct) := inl_ok tt_ok h 60 fn_sched_Take rfl nt_sched_Take rfl cal_sched_Take (by kernel_rfl)
@[match_pattern] abbrev f_sched_Settle : Nat := 17
theorem fn_sched_Settle : Try.prog.funcs[f_sched_Settle]? = some Try.f17 := Try.func17
abbrev n_sched_Settle : Nat := 103
theorem nt_sched_Settle : Try.f17.ntmps = n_sched_Settle := Try.ntmps17
abbrev k_sched_Settle : List Nat := [0, 1, 2, 4, 5, 6, 7, 9, 14, 17, 32, 51, 54, 61, 92]
abbrev rs_sched_Settle : List ResultVar := [.cell 4 32, .tmp 5]
theorem cal_sched_Settle : Sx.Callee Try.prog f_sched_Settle := ⟨_, Try.func17, by kernel_rfl, by kernel_rfl⟩
noncomputable abbrev in_sched_Settle (ct : CT) : Ent := .st (inlS tt ct n_sched_Settle k_sched_Settle rs_sched_Settle 60 (Try.f17.body.getD .skip))
theorem in_sched_Settle_ok {ct : CT} (h : CTok Try.prog ct) : EntOk Try.prog f_sched_Settle (in_sched_Settle ct) := inl_ok tt_ok h 60 fn_sched_Settle rfl nt_sched_Settle rfl cal_sched_Settle (by kernel_rfl)
@[match_pattern] abbrev f_sched_Exec : Nat := 18
theorem fn_sched_Exec : Try.prog.funcs[f_sched_Exec]? = some Try.f18 := Try.func18
abbrev n_sched_Exec : Nat := 37
theorem nt_sched_Exec : Try.f18.ntmps = n_sched_Exec := Try.ntmps18
abbrev k_sched_Exec : List Nat := [0, 1, 2, 3, 5, 6, 7, 8, 12, 18, 23]
abbrev rs_sched_Exec : List ResultVar := [.cell 6 32, .tmp 7]
theorem cal_sched_Exec : Sx.Callee Try.prog f_sched_Exec := ⟨_, Try.func18, by kernel_rfl, by kernel_rfl⟩
noncomputable abbrev in_sched_Exec (ct : CT) : Ent := .st (inlS tt ct n_sched_Exec k_sched_Exec rs_sched_Exec 60 (Try.f18.body.getD .skip))
theorem in_sched_Exec_ok {ct : CT} (h : CTok Try.prog ct) : EntOk Try.prog f_sched_Exec (in_sched_Exec ct) := inl_ok tt_ok h 60 fn_sched_Exec rfl nt_sched_Exec rfl cal_sched_Exec (by kernel_rfl)
@[match_pattern] abbrev f_l29_op : Nat := 19
theorem fn_l29_op : Try.prog.funcs[f_l29_op]? = some Try.f19 := Try.func19
abbrev n_l29_op : Nat := 5
theorem nt_l29_op : Try.f19.ntmps = n_l29_op := Try.ntmps19
abbrev k_l29_op : List Nat := [0, 2]
abbrev rs_l29_op : List ResultVar := [.cell 2 48]
theorem cal_l29_op : Sx.Callee Try.prog f_l29_op := ⟨_, Try.func19, by kernel_rfl, by kernel_rfl⟩
noncomputable abbrev in_l29_op (ct : CT) : Ent := .st (inlS tt ct n_l29_op k_l29_op rs_l29_op 60 (Try.f19.body.getD .skip))
theorem in_l29_op_ok {ct : CT} (h : CTok Try.prog ct) : EntOk Try.prog f_l29_op (in_l29_op ct) := inl_ok tt_ok h 60 fn_l29_op rfl nt_l29_op rfl cal_l29_op (by kernel_rfl)
@[match_pattern] abbrev f_sched_Wait : Nat := 20
theorem fn_sched_Wait : Try.prog.funcs[f_sched_Wait]? = some Try.f20 := Try.func20
abbrev n_sched_Wait : Nat := 31
theorem nt_sched_Wait : Try.f20.ntmps = n_sched_Wait := Try.ntmps20
abbrev k_sched_Wait : List Nat := [0, 1, 2, 4, 5, 6, 10, 15]
abbrev rs_sched_Wait : List ResultVar := [.cell 4 32, .tmp 5]
theorem cal_sched_Wait : Sx.Callee Try.prog f_sched_Wait := ⟨_, Try.func20, by kernel_rfl, by kernel_rfl⟩
noncomputable abbrev in_sched_Wait (ct : CT) : Ent := .st (inlS tt ct n_sched_Wait k_sched_Wait rs_sched_Wait 60 (Try.f20.body.getD .skip))
theorem in_sched_Wait_ok {ct : CT} (h : CTok Try.prog ct) : EntOk Try.prog f_sched_Wait (in_sched_Wait ct) := inl_ok tt_ok h 60 fn_sched_Wait rfl nt_sched_Wait rfl cal_sched_Wait (by kernel_rfl)
@[match_pattern] abbrev f_sched_Slice : Nat := 21
theorem fn_sched_Slice : Try.prog.funcs[f_sched_Slice]? = some Try.f21 := Try.func21
abbrev n_sched_Slice : Nat := 64
theorem nt_sched_Slice : Try.f21.ntmps = n_sched_Slice := Try.ntmps21
abbrev k_sched_Slice : List Nat := [0, 1, 2, 4, 5, 6, 8, 13, 33, 47]
abbrev rs_sched_Slice : List ResultVar := [.cell 4 32, .tmp 5]
theorem cal_sched_Slice : Sx.Callee Try.prog f_sched_Slice := ⟨_, Try.func21, by kernel_rfl, by kernel_rfl⟩
noncomputable abbrev in_sched_Slice (ct : CT) : Ent := .st (inlS tt ct n_sched_Slice k_sched_Slice rs_sched_Slice 60 (Try.f21.body.getD .skip))
theorem in_sched_Slice_ok {ct : CT} (h : CTok Try.prog ct) : EntOk Try.prog f_sched_Slice (in_sched_Slice ct) := inl_ok tt_ok h 60 fn_sched_Slice rfl nt_sched_Slice rfl cal_sched_Slice (by kernel_rfl)
@[match_pattern] abbrev f_l29_deed : Nat := 22
theorem fn_l29_deed : Try.prog.funcs[f_l29_deed]? = some Try.f22 := Try.func22
abbrev n_l29_deed : Nat := 126
theorem nt_l29_deed : Try.f22.ntmps = n_l29_deed := Try.ntmps22
abbrev k_l29_deed : List Nat := [0, 1, 2, 3, 5, 6, 7, 8, 9, 10, 11, 12, 44, 47, 58, 77, 86, 95, 105, 115]
abbrev rs_l29_deed : List ResultVar := [.cell 6 32, .tmp 7]
theorem cal_l29_deed : Sx.Callee Try.prog f_l29_deed := ⟨_, Try.func22, by kernel_rfl, by kernel_rfl⟩
noncomputable abbrev in_l29_deed (ct : CT) : Ent := .st (inlS tt ct n_l29_deed k_l29_deed rs_l29_deed 60 (Try.f22.body.getD .skip))
theorem in_l29_deed_ok {ct : CT} (h : CTok Try.prog ct) : EntOk Try.prog f_l29_deed (in_l29_deed ct) := inl_ok tt_ok h 60 fn_l29_deed rfl nt_l29_deed rfl cal_l29_deed (by kernel_rfl)
@[match_pattern] abbrev f_sched_Settled : Nat := 23
theorem fn_sched_Settled : Try.prog.funcs[f_sched_Settled]? = some Try.f23 := Try.func23
abbrev n_sched_Settled : Nat := 95
theorem nt_sched_Settled : Try.f23.ntmps = n_sched_Settled := Try.ntmps23
abbrev k_sched_Settled : List Nat := [0, 1, 2, 3, 4, 13, 39, 50, 60, 72]
abbrev rs_sched_Settled : List ResultVar := [.tmp 2]
theorem cal_sched_Settled : Sx.Callee Try.prog f_sched_Settled := ⟨_, Try.func23, by kernel_rfl, by kernel_rfl⟩
noncomputable abbrev in_sched_Settled (ct : CT) : Ent := .st (inlS tt ct n_sched_Settled k_sched_Settled rs_sched_Settled 60 (Try.f23.body.getD .skip))
theorem in_sched_Settled_ok {ct : CT} (h : CTok Try.prog ct) : EntOk Try.prog f_sched_Settled (in_sched_Settled ct) := inl_ok tt_ok h 60 fn_sched_Settled rfl nt_sched_Settled rfl cal_sched_Settled (by kernel_rfl)
@[match_pattern] abbrev f_l29_places : Nat := 24
theorem fn_l29_places : Try.prog.funcs[f_l29_places]? = some Try.f24 := Try.func24
abbrev n_l29_places : Nat := 62
theorem nt_l29_places : Try.f24.ntmps = n_l29_places := Try.ntmps24
abbrev k_l29_places : List Nat := [0, 1, 2, 3, 6, 7, 8, 9, 10, 11, 19, 31, 35, 46, 50, 58]
abbrev rs_l29_places : List ResultVar := [.tmp 6]
theorem cal_l29_places : Sx.Callee Try.prog f_l29_places := ⟨_, Try.func24, by kernel_rfl, by kernel_rfl⟩
noncomputable abbrev in_l29_places (ct : CT) : Ent := .st (inlS tt ct n_l29_places k_l29_places rs_l29_places 60 (Try.f24.body.getD .skip))
theorem in_l29_places_ok {ct : CT} (h : CTok Try.prog ct) : EntOk Try.prog f_l29_places (in_l29_places ct) := inl_ok tt_ok h 60 fn_l29_places rfl nt_l29_places rfl cal_l29_places (by kernel_rfl)
@[match_pattern] abbrev f_mem_Mem_Word : Nat := 25
theorem fn_mem_Mem_Word : Try.prog.funcs[f_mem_Mem_Word]? = some Try.f25 := Try.func25
abbrev n_mem_Mem_Word : Nat := 40
theorem nt_mem_Mem_Word : Try.f25.ntmps = n_mem_Mem_Word := Try.ntmps25
abbrev k_mem_Mem_Word : List Nat := [0, 1, 4, 5, 6, 7, 15]
abbrev rs_mem_Mem_Word : List ResultVar := [.tmp 4, .tmp 5]
theorem cal_mem_Mem_Word : Sx.Callee Try.prog f_mem_Mem_Word := ⟨_, Try.func25, by kernel_rfl, by kernel_rfl⟩
noncomputable abbrev in_mem_Mem_Word (ct : CT) : Ent := .st (inlS tt ct n_mem_Mem_Word k_mem_Mem_Word rs_mem_Mem_Word 60 (Try.f25.body.getD .skip))
theorem in_mem_Mem_Word_ok {ct : CT} (h : CTok Try.prog ct) : EntOk Try.prog f_mem_Mem_Word (in_mem_Mem_Word ct) := inl_ok tt_ok h 60 fn_mem_Mem_Word rfl nt_mem_Mem_Word rfl cal_mem_Mem_Word (by kernel_rfl)
@[match_pattern] abbrev f_mem_From : Nat := 26
theorem fn_mem_From : Try.prog.funcs[f_mem_From]? = some Try.f26 := Try.func26
abbrev n_mem_From : Nat := 21
theorem nt_mem_From : Try.f26.ntmps = n_mem_From := Try.ntmps26
abbrev k_mem_From : List Nat := [0, 2, 3, 4, 8]
abbrev rs_mem_From : List ResultVar := [.tmp 2, .tmp 3]
theorem cal_mem_From : Sx.Callee Try.prog f_mem_From := ⟨_, Try.func26, by kernel_rfl, by kernel_rfl⟩
noncomputable abbrev in_mem_From (ct : CT) : Ent := .st (inlS tt ct n_mem_From k_mem_From rs_mem_From 60 (Try.f26.body.getD .skip))
theorem in_mem_From_ok {ct : CT} (h : CTok Try.prog ct) : EntOk Try.prog f_mem_From (in_mem_From ct) := inl_ok tt_ok h 60 fn_mem_From rfl nt_mem_From rfl cal_mem_From (by kernel_rfl)
@[match_pattern] abbrev f_l29_both : Nat := 27
theorem fn_l29_both : Try.prog.funcs[f_l29_both]? = some Try.f27 := Try.func27
abbrev n_l29_both : Nat := 212
theorem nt_l29_both : Try.f27.ntmps = n_l29_both := Try.ntmps27
abbrev k_l29_both : List Nat := [0, 1, 2, 3, 4, 7, 8, 9, 10, 11, 12, 13, 14, 15, 16, 17, 18, 19, 20, 21, 27, 52, 55, 74, 96, 99, 114, 128, 143, 162, 179, 203, 207]
abbrev rs_l29_both : List ResultVar := [.cell 8 32, .tmp 9, .tmp 10]
theorem cal_l29_both : Sx.Callee Try.prog f_l29_both := ⟨_, Try.func27, by kernel_rfl, by kernel_rfl⟩
noncomputable abbrev in_l29_both (ct : CT) : Ent := .st (inlS tt ct n_l29_both k_l29_both rs_l29_both 60 (Try.f27.body.getD .skip))
theorem in_l29_both_ok {ct : CT} (h : CTok Try.prog ct) : EntOk Try.prog f_l29_both (in_l29_both ct) := inl_ok tt_ok h 60 fn_l29_both rfl nt_l29_both rfl cal_l29_both (by kernel_rfl)
@[match_pattern] abbrev f_r29_Settled : Nat := 28
theorem fn_r29_Settled : Try.prog.funcs[f_r29_Settled]? = some Try.f28 := Try.func28
abbrev n_r29_Settled : Nat := 97
theorem nt_r29_Settled : Try.f28.ntmps = n_r29_Settled := Try.ntmps28
abbrev k_r29_Settled : List Nat := [0, 1, 2, 31, 52, 54, 82]
abbrev rs_r29_Settled : List ResultVar := [.tmp 2]
theorem cal_r29_Settled : Sx.Callee Try.prog f_r29_Settled := ⟨_, Try.func28, by kernel_rfl, by kernel_rfl⟩
noncomputable abbrev in_r29_Settled (ct : CT) : Ent := .st (inlS tt ct n_r29_Settled k_r29_Settled rs_r29_Settled 60 (Try.f28.body.getD .skip))
theorem in_r29_Settled_ok {ct : CT} (h : CTok Try.prog ct) : EntOk Try.prog f_r29_Settled (in_r29_Settled ct) := inl_ok tt_ok h 60 fn_r29_Settled rfl nt_r29_Settled rfl cal_r29_Settled (by kernel_rfl)
@[match_pattern] abbrev f_sched_Mine : Nat := 29
theorem fn_sched_Mine : Try.prog.funcs[f_sched_Mine]? = some Try.f29 := Try.func29
abbrev n_sched_Mine : Nat := 13
theorem nt_sched_Mine : Try.f29.ntmps = n_sched_Mine := Try.ntmps29
abbrev k_sched_Mine : List Nat := [0, 1, 2]
abbrev rs_sched_Mine : List ResultVar := [.tmp 2]
theorem cal_sched_Mine : Sx.Callee Try.prog f_sched_Mine := ⟨_, Try.func29, by kernel_rfl, by kernel_rfl⟩
noncomputable abbrev in_sched_Mine (ct : CT) : Ent := .st (inlS tt ct n_sched_Mine k_sched_Mine rs_sched_Mine 60 (Try.f29.body.getD .skip))
theorem in_sched_Mine_ok {ct : CT} (h : CTok Try.prog ct) : EntOk Try.prog f_sched_Mine (in_sched_Mine ct) := inl_ok tt_ok h 60 fn_sched_Mine rfl nt_sched_Mine rfl cal_sched_Mine (by kernel_rfl)
@[match_pattern] abbrev f_r29_Mine : Nat := 30
theorem fn_r29_Mine : Try.prog.funcs[f_r29_Mine]? = some Try.f30 := Try.func30
abbrev n_r29_Mine : Nat := 34
theorem nt_r29_Mine : Try.f30.ntmps = n_r29_Mine := Try.ntmps30
abbrev k_r29_Mine : List Nat := [0, 1, 2, 5]
abbrev rs_r29_Mine : List ResultVar := [.tmp 2]
theorem cal_r29_Mine : Sx.Callee Try.prog f_r29_Mine := ⟨_, Try.func30, by kernel_rfl, by kernel_rfl⟩
noncomputable abbrev in_r29_Mine (ct : CT) : Ent := .st (inlS tt ct n_r29_Mine k_r29_Mine rs_r29_Mine 60 (Try.f30.body.getD .skip))
theorem in_r29_Mine_ok {ct : CT} (h : CTok Try.prog ct) : EntOk Try.prog f_r29_Mine (in_r29_Mine ct) := inl_ok tt_ok h 60 fn_r29_Mine rfl nt_r29_Mine rfl cal_r29_Mine (by kernel_rfl)
@[match_pattern] abbrev f_mem_Mem_SetWord : Nat := 31
theorem fn_mem_Mem_SetWord : Try.prog.funcs[f_mem_Mem_SetWord]? = some Try.f31 := Try.func31
abbrev n_mem_Mem_SetWord : Nat := 32
theorem nt_mem_Mem_SetWord : Try.f31.ntmps = n_mem_Mem_SetWord := Try.ntmps31
abbrev k_mem_Mem_SetWord : List Nat := [0, 1, 2, 6, 7, 8, 9, 17, 18, 19]
abbrev rs_mem_Mem_SetWord : List ResultVar := [.tmp 6]
theorem cal_mem_Mem_SetWord : Sx.Callee Try.prog f_mem_Mem_SetWord := ⟨_, Try.func31, by kernel_rfl, by kernel_rfl⟩
noncomputable abbrev in_mem_Mem_SetWord (ct : CT) : Ent := .st (inlS tt ct n_mem_Mem_SetWord k_mem_Mem_SetWord rs_mem_Mem_SetWord 60 (Try.f31.body.getD .skip))
theorem in_mem_Mem_SetWord_ok {ct : CT} (h : CTok Try.prog ct) : EntOk Try.prog f_mem_Mem_SetWord (in_mem_Mem_SetWord ct) := inl_ok tt_ok h 60 fn_mem_Mem_SetWord rfl nt_mem_Mem_SetWord rfl cal_mem_Mem_SetWord (by kernel_rfl)
@[match_pattern] abbrev f_mem_may : Nat := 32
theorem fn_mem_may : Try.prog.funcs[f_mem_may]? = some Try.f32 := Try.func32
abbrev n_mem_may : Nat := 14
theorem nt_mem_may : Try.f32.ntmps = n_mem_may := Try.ntmps32
abbrev k_mem_may : List Nat := [0, 2]
abbrev rs_mem_may : List ResultVar := [.tmp 2]
theorem cal_mem_may : Sx.Callee Try.prog f_mem_may := ⟨_, Try.func32, by kernel_rfl, by kernel_rfl⟩
noncomputable abbrev in_mem_may (ct : CT) : Ent := .st (inlS tt ct n_mem_may k_mem_may rs_mem_may 60 (Try.f32.body.getD .skip))
theorem in_mem_may_ok {ct : CT} (h : CTok Try.prog ct) : EntOk Try.prog f_mem_may (in_mem_may ct) := inl_ok tt_ok h 60 fn_mem_may rfl nt_mem_may rfl cal_mem_may (by kernel_rfl)
@[match_pattern] abbrev f_sched_none : Nat := 33
theorem fn_sched_none : Try.prog.funcs[f_sched_none]? = some Try.f33 := Try.func33
abbrev n_sched_none : Nat := 6
theorem nt_sched_none : Try.f33.ntmps = n_sched_none := Try.ntmps33
abbrev k_sched_none : List Nat := [0, 2]
abbrev rs_sched_none : List ResultVar := [.tmp 2]
theorem cal_sched_none : Sx.Callee Try.prog f_sched_none := ⟨_, Try.func33, by kernel_rfl, by kernel_rfl⟩
noncomputable abbrev in_sched_none (ct : CT) : Ent := .st (inlS tt ct n_sched_none k_sched_none rs_sched_none 60 (Try.f33.body.getD .skip))
theorem in_sched_none_ok {ct : CT} (h : CTok Try.prog ct) : EntOk Try.prog f_sched_none (in_sched_none ct) := inl_ok tt_ok h 60 fn_sched_none rfl nt_sched_none rfl cal_sched_none (by kernel_rfl)
@[match_pattern] abbrev f_sched_valid : Nat := 34
theorem fn_sched_valid : Try.prog.funcs[f_sched_valid]? = some Try.f34 := Try.func34
abbrev n_sched_valid : Nat := 23
theorem nt_sched_valid : Try.f34.ntmps = n_sched_valid := Try.ntmps34
abbrev k_sched_valid : List Nat := [0, 1, 4, 5]
abbrev rs_sched_valid : List ResultVar := [.tmp 4]
theorem cal_sched_valid : Sx.Callee Try.prog f_sched_valid := ⟨_, Try.func34, by kernel_rfl, by kernel_rfl⟩
noncomputable abbrev in_sched_valid (ct : CT) : Ent := .st (inlS tt ct n_sched_valid k_sched_valid rs_sched_valid 60 (Try.f34.body.getD .skip))
theorem in_sched_valid_ok {ct : CT} (h : CTok Try.prog ct) : EntOk Try.prog f_sched_valid (in_sched_valid ct) := inl_ok tt_ok h 60 fn_sched_valid rfl nt_sched_valid rfl cal_sched_valid (by kernel_rfl)
@[match_pattern] abbrev f_sched_chain : Nat := 35
theorem fn_sched_chain : Try.prog.funcs[f_sched_chain]? = some Try.f35 := Try.func35
abbrev n_sched_chain : Nat := 8
theorem nt_sched_chain : Try.f35.ntmps = n_sched_chain := Try.ntmps35
abbrev k_sched_chain : List Nat := [0, 1, 2, 3, 4, 5, 6]
abbrev rs_sched_chain : List ResultVar := [.tmp 6]
theorem cal_sched_chain : Sx.Callee Try.prog f_sched_chain := ⟨_, Try.func35, by kernel_rfl, by kernel_rfl⟩
noncomputable abbrev in_sched_chain (ct : CT) : Ent := .st (inlS tt ct n_sched_chain k_sched_chain rs_sched_chain 60 (Try.f35.body.getD .skip))
theorem in_sched_chain_ok {ct : CT} (h : CTok Try.prog ct) : EntOk Try.prog f_sched_chain (in_sched_chain ct) := inl_ok tt_ok h 60 fn_sched_chain rfl nt_sched_chain rfl cal_sched_chain (by kernel_rfl)
@[match_pattern] abbrev f_sched_word : Nat := 36
theorem fn_sched_word : Try.prog.funcs[f_sched_word]? = some Try.f36 := Try.func36
abbrev n_sched_word : Nat := 19
theorem nt_sched_word : Try.f36.ntmps = n_sched_word := Try.ntmps36
abbrev k_sched_word : List Nat := [0, 1, 2, 6, 7]
abbrev rs_sched_word : List ResultVar := [.tmp 6]
theorem cal_sched_word : Sx.Callee Try.prog f_sched_word := ⟨_, Try.func36, by kernel_rfl, by kernel_rfl⟩
noncomputable abbrev in_sched_word (ct : CT) : Ent := .st (inlS tt ct n_sched_word k_sched_word rs_sched_word 60 (Try.f36.body.getD .skip))
theorem in_sched_word_ok {ct : CT} (h : CTok Try.prog ct) : EntOk Try.prog f_sched_word (in_sched_word ct) := inl_ok tt_ok h 60 fn_sched_word rfl nt_sched_word rfl cal_sched_word (by kernel_rfl)
@[match_pattern] abbrev f_sched_nobody : Nat := 37
theorem fn_sched_nobody : Try.prog.funcs[f_sched_nobody]? = some Try.f37 := Try.func37
abbrev n_sched_nobody : Nat := 13
theorem nt_sched_nobody : Try.f37.ntmps = n_sched_nobody := Try.ntmps37
abbrev k_sched_nobody : List Nat := [0, 1, 2]
abbrev rs_sched_nobody : List ResultVar := [.cell 2 32]
theorem cal_sched_nobody : Sx.Callee Try.prog f_sched_nobody := ⟨_, Try.func37, by kernel_rfl, by kernel_rfl⟩
noncomputable abbrev in_sched_nobody (ct : CT) : Ent := .st (inlS tt ct n_sched_nobody k_sched_nobody rs_sched_nobody 60 (Try.f37.body.getD .skip))
theorem in_sched_nobody_ok {ct : CT} (h : CTok Try.prog ct) : EntOk Try.prog f_sched_nobody (in_sched_nobody ct) := inl_ok tt_ok h 60 fn_sched_nobody rfl nt_sched_nobody rfl cal_sched_nobody (by kernel_rfl)
@[match_pattern] abbrev f_sched_start : Nat := 38
theorem fn_sched_start : Try.prog.funcs[f_sched_start]? = some Try.f38 := Try.func38
abbrev n_sched_start : Nat := 34
theorem nt_sched_start : Try.f38.ntmps = n_sched_start := Try.ntmps38
abbrev k_sched_start : List Nat := [0, 1, 2, 3, 6, 7, 8, 9, 19]
abbrev rs_sched_start : List ResultVar := [.cell 6 32, .tmp 7]
theorem cal_sched_start : Sx.Callee Try.prog f_sched_start := ⟨_, Try.func38, by kernel_rfl, by kernel_rfl⟩
noncomputable abbrev in_sched_start (ct : CT) : Ent := .st (inlS tt ct n_sched_start k_sched_start rs_sched_start 60 (Try.f38.body.getD .skip))
theorem in_sched_start_ok {ct : CT} (h : CTok Try.prog ct) : EntOk Try.prog f_sched_start (in_sched_start ct) := inl_ok tt_ok h 60 fn_sched_start rfl nt_sched_start rfl cal_sched_start (by kernel_rfl)
@[match_pattern] abbrev f_sched_operations : Nat := 39
theorem fn_sched_operations : Try.prog.funcs[f_sched_operations]? = some Try.f39 := Try.func39
abbrev n_sched_operations : Nat := 3
theorem nt_sched_operations : Try.f39.ntmps = n_sched_operations := Try.ntmps39
abbrev k_sched_operations : List Nat := [0]
abbrev rs_sched_operations : List ResultVar := [.tmp 0]
theorem cal_sched_operations : Sx.Callee Try.prog f_sched_operations := ⟨_, Try.func39, by kernel_rfl, by kernel_rfl⟩
noncomputable abbrev in_sched_operations (ct : CT) : Ent := .st (inlS tt ct n_sched_operations k_sched_operations rs_sched_operations 60 (Try.f39.body.getD .skip))
theorem in_sched_operations_ok {ct : CT} (h : CTok Try.prog ct) : EntOk Try.prog f_sched_operations (in_sched_operations ct) := inl_ok tt_ok h 60 fn_sched_operations rfl nt_sched_operations rfl cal_sched_operations (by kernel_rfl)
@[match_pattern] abbrev f_mem_Mem_word : Nat := 40
theorem fn_mem_Mem_word : Try.prog.funcs[f_mem_Mem_word]? = some Try.f40 := Try.func40
abbrev n_mem_Mem_word : Nat := 12
theorem nt_mem_Mem_word : Try.f40.ntmps = n_mem_Mem_word := Try.ntmps40
abbrev k_mem_Mem_word : List Nat := [0, 1, 4, 5]
abbrev rs_mem_Mem_word : List ResultVar := [.tmp 4, .tmp 5]
theorem cal_mem_Mem_word : Sx.Callee Try.prog f_mem_Mem_word := ⟨_, Try.func40, by kernel_rfl, by kernel_rfl⟩
noncomputable abbrev in_mem_Mem_word (ct : CT) : Ent := .st (inlS tt ct n_mem_Mem_word k_mem_Mem_word rs_mem_Mem_word 60 (Try.f40.body.getD .skip))
theorem in_mem_Mem_word_ok {ct : CT} (h : CTok Try.prog ct) : EntOk Try.prog f_mem_Mem_word (in_mem_Mem_word ct) := inl_ok tt_ok h 60 fn_mem_Mem_word rfl nt_mem_Mem_word rfl cal_mem_Mem_word (by kernel_rfl)
@[match_pattern] abbrev f_r29_Append : Nat := 41
theorem fn_r29_Append : Try.prog.funcs[f_r29_Append]? = some Try.f41 := Try.func41
abbrev n_r29_Append : Nat := 52
theorem nt_r29_Append : Try.f41.ntmps = n_r29_Append := Try.ntmps41
abbrev k_r29_Append : List Nat := [0, 1, 2, 3, 6, 7, 8, 9, 10, 19, 26, 36]
abbrev rs_r29_Append : List ResultVar := [.cell 6 32, .tmp 7, .tmp 8]
theorem cal_r29_Append : Sx.Callee Try.prog f_r29_Append := ⟨_, Try.func41, by kernel_rfl, by kernel_rfl⟩
noncomputable abbrev in_r29_Append (ct : CT) : Ent := .st (inlS tt ct n_r29_Append k_r29_Append rs_r29_Append 60 (Try.f41.body.getD .skip))
theorem in_r29_Append_ok {ct : CT} (h : CTok Try.prog ct) : EntOk Try.prog f_r29_Append (in_r29_Append ct) := inl_ok tt_ok h 60 fn_r29_Append rfl nt_r29_Append rfl cal_r29_Append (by kernel_rfl)
@[match_pattern] abbrev f_r29_Take : Nat := 42
theorem fn_r29_Take : Try.prog.funcs[f_r29_Take]? = some Try.f42 := Try.func42
abbrev n_r29_Take : Nat := 49
theorem nt_r29_Take : Try.f42.ntmps = n_r29_Take := Try.ntmps42
abbrev k_r29_Take : List Nat := [0, 1, 2, 3, 6, 7, 8, 9, 15, 22, 27, 34]
abbrev rs_r29_Take : List ResultVar := [.cell 6 32, .tmp 7, .tmp 8]
theorem cal_r29_Take : Sx.Callee Try.prog f_r29_Take := ⟨_, Try.func42, by kernel_rfl, by kernel_rfl⟩
noncomputable abbrev in_r29_Take (ct : CT) : Ent := .st (inlS tt ct n_r29_Take k_r29_Take rs_r29_Take 60 (Try.f42.body.getD .skip))
theorem in_r29_Take_ok {ct : CT} (h : CTok Try.prog ct) : EntOk Try.prog f_r29_Take (in_r29_Take ct) := inl_ok tt_ok h 60 fn_r29_Take rfl nt_r29_Take rfl cal_r29_Take (by kernel_rfl)
@[match_pattern] abbrev f_r29_Wait : Nat := 43
theorem fn_r29_Wait : Try.prog.funcs[f_r29_Wait]? = some Try.f43 := Try.func43
abbrev n_r29_Wait : Nat := 27
theorem nt_r29_Wait : Try.f43.ntmps = n_r29_Wait := Try.ntmps43
abbrev k_r29_Wait : List Nat := [0, 1, 2, 4, 5, 6, 9, 16]
abbrev rs_r29_Wait : List ResultVar := [.cell 4 32, .tmp 5, .tmp 6]
theorem cal_r29_Wait : Sx.Callee Try.prog f_r29_Wait := ⟨_, Try.func43, by kernel_rfl, by kernel_rfl⟩
noncomputable abbrev in_r29_Wait (ct : CT) : Ent := .st (inlS tt ct n_r29_Wait k_r29_Wait rs_r29_Wait 60 (Try.f43.body.getD .skip))
theorem in_r29_Wait_ok {ct : CT} (h : CTok Try.prog ct) : EntOk Try.prog f_r29_Wait (in_r29_Wait ct) := inl_ok tt_ok h 60 fn_r29_Wait rfl nt_r29_Wait rfl cal_r29_Wait (by kernel_rfl)
@[match_pattern] abbrev f_r29_Settle : Nat := 44
theorem fn_r29_Settle : Try.prog.funcs[f_r29_Settle]? = some Try.f44 := Try.func44
abbrev n_r29_Settle : Nat := 103
theorem nt_r29_Settle : Try.f44.ntmps = n_r29_Settle := Try.ntmps44
abbrev k_r29_Settle : List Nat := [0, 1, 2, 4, 5, 6, 14, 17, 31, 51, 56, 64, 96]
abbrev rs_r29_Settle : List ResultVar := [.cell 4 32, .tmp 5]
theorem cal_r29_Settle : Sx.Callee Try.prog f_r29_Settle := ⟨_, Try.func44, by kernel_rfl, by kernel_rfl⟩
noncomputable abbrev in_r29_Settle (ct : CT) : Ent := .st (inlS tt ct n_r29_Settle k_r29_Settle rs_r29_Settle 60 (Try.f44.body.getD .skip))
theorem in_r29_Settle_ok {ct : CT} (h : CTok Try.prog ct) : EntOk Try.prog f_r29_Settle (in_r29_Settle ct) := inl_ok tt_ok h 60 fn_r29_Settle rfl nt_r29_Settle rfl cal_r29_Settle (by kernel_rfl)
@[match_pattern] abbrev f_r29_Slice : Nat := 45
theorem fn_r29_Slice : Try.prog.funcs[f_r29_Slice]? = some Try.f45 := Try.func45
abbrev n_r29_Slice : Nat := 70
theorem nt_r29_Slice : Try.f45.ntmps = n_r29_Slice := Try.ntmps45
abbrev k_r29_Slice : List Nat := [0, 1, 2, 4, 5, 6, 7, 8, 9, 17, 38, 49, 64]
abbrev rs_r29_Slice : List ResultVar := [.cell 4 32, .tmp 5, .tmp 6]
theorem cal_r29_Slice : Sx.Callee Try.prog f_r29_Slice := ⟨_, Try.func45, by kernel_rfl, by kernel_rfl⟩
noncomputable abbrev in_r29_Slice (ct : CT) : Ent := .st (inlS tt ct n_r29_Slice k_r29_Slice rs_r29_Slice 60 (Try.f45.body.getD .skip))
theorem in_r29_Slice_ok {ct : CT} (h : CTok Try.prog ct) : EntOk Try.prog f_r29_Slice (in_r29_Slice ct) := inl_ok tt_ok h 60 fn_r29_Slice rfl nt_r29_Slice rfl cal_r29_Slice (by kernel_rfl)
@[match_pattern] abbrev f_r29_Exec : Nat := 46
theorem fn_r29_Exec : Try.prog.funcs[f_r29_Exec]? = some Try.f46 := Try.func46
abbrev n_r29_Exec : Nat := 101
theorem nt_r29_Exec : Try.f46.ntmps = n_r29_Exec := Try.ntmps46
abbrev k_r29_Exec : List Nat := [0, 1, 2, 3, 5, 6, 7, 8, 9, 10, 11, 19, 24, 29, 33, 34, 42, 50, 62, 69, 77, 80]
abbrev rs_r29_Exec : List ResultVar := [.cell 6 32, .tmp 7, .tmp 8]
theorem cal_r29_Exec : Sx.Callee Try.prog f_r29_Exec := ⟨_, Try.func46, by kernel_rfl, by kernel_rfl⟩
noncomputable abbrev in_r29_Exec (ct : CT) : Ent := .st (inlS tt ct n_r29_Exec k_r29_Exec rs_r29_Exec 60 (Try.f46.body.getD .skip))
theorem in_r29_Exec_ok {ct : CT} (h : CTok Try.prog ct) : EntOk Try.prog f_r29_Exec (in_r29_Exec ct) := inl_ok tt_ok h 60 fn_r29_Exec rfl nt_r29_Exec rfl cal_r29_Exec (by kernel_rfl)
@[match_pattern] abbrev f_r03_SetWord : Nat := 47
theorem fn_r03_SetWord : Try.prog.funcs[f_r03_SetWord]? = some Try.f47 := Try.func47
abbrev n_r03_SetWord : Nat := 25
theorem nt_r03_SetWord : Try.f47.ntmps = n_r03_SetWord := Try.ntmps47
abbrev k_r03_SetWord : List Nat := [0, 1, 2, 6, 7, 8, 13]
abbrev rs_r03_SetWord : List ResultVar := [.tmp 6, .tmp 7]
theorem cal_r03_SetWord : Sx.Callee Try.prog f_r03_SetWord := ⟨_, Try.func47, by kernel_rfl, by kernel_rfl⟩
noncomputable abbrev in_r03_SetWord (ct : CT) : Ent := .st (inlS tt ct n_r03_SetWord k_r03_SetWord rs_r03_SetWord 60 (Try.f47.body.getD .skip))
theorem in_r03_SetWord_ok {ct : CT} (h : CTok Try.prog ct) : EntOk Try.prog f_r03_SetWord (in_r03_SetWord ct) := inl_ok tt_ok h 60 fn_r03_SetWord rfl nt_r03_SetWord rfl cal_r03_SetWord (by kernel_rfl)
@[match_pattern] abbrev f_l29_changed : Nat := 48
theorem fn_l29_changed : Try.prog.funcs[f_l29_changed]? = some Try.f48 := Try.func48
abbrev n_l29_changed : Nat := 60
theorem nt_l29_changed : Try.f48.ntmps = n_l29_changed := Try.ntmps48
abbrev k_l29_changed : List Nat := [0, 1, 2, 3, 6, 9, 14, 18, 22, 26, 30, 35, 41, 47, 51]
abbrev rs_l29_changed : List ResultVar := [.cell 6 32]
theorem cal_l29_changed : Sx.Callee Try.prog f_l29_changed := ⟨_, Try.func48, by kernel_rfl, by kernel_rfl⟩
noncomputable abbrev in_l29_changed (ct : CT) : Ent := .st (inlS tt ct n_l29_changed k_l29_changed rs_l29_changed 60 (Try.f48.body.getD .skip))
theorem in_l29_changed_ok {ct : CT} (h : CTok Try.prog ct) : EntOk Try.prog f_l29_changed (in_l29_changed ct) := inl_ok tt_ok h 60 fn_l29_changed rfl nt_l29_changed rfl cal_l29_changed (by kernel_rfl)
@[match_pattern] abbrev f_r29_Queue : Nat := 49
theorem fn_r29_Queue : Try.prog.funcs[f_r29_Queue]? = some Try.f49 := Try.func49
abbrev n_r29_Queue : Nat := 45
theorem nt_r29_Queue : Try.f49.ntmps = n_r29_Queue := Try.ntmps49
abbrev k_r29_Queue : List Nat := [0, 1, 2, 3, 6, 7, 8, 9, 15, 21, 30, 40]
abbrev rs_r29_Queue : List ResultVar := [.tmp 6, .tmp 7]
theorem cal_r29_Queue : Sx.Callee Try.prog f_r29_Queue := ⟨_, Try.func49, by kernel_rfl, by kernel_rfl⟩
noncomputable abbrev in_r29_Queue (ct : CT) : Ent := .st (inlS tt ct n_r29_Queue k_r29_Queue rs_r29_Queue 60 (Try.f49.body.getD .skip))
theorem in_r29_Queue_ok {ct : CT} (h : CTok Try.prog ct) : EntOk Try.prog f_r29_Queue (in_r29_Queue ct) := inl_ok tt_ok h 60 fn_r29_Queue rfl nt_r29_Queue rfl cal_r29_Queue (by kernel_rfl)
@[match_pattern] abbrev f_r03_Same : Nat := 50
theorem fn_r03_Same : Try.prog.funcs[f_r03_Same]? = some Try.f50 := Try.func50
abbrev n_r03_Same : Nat := 10
theorem nt_r03_Same : Try.f50.ntmps = n_r03_Same := Try.ntmps50
abbrev k_r03_Same : List Nat := [0, 1, 4]
abbrev rs_r03_Same : List ResultVar := [.tmp 4]
theorem cal_r03_Same : Sx.Callee Try.prog f_r03_Same := ⟨_, Try.func50, by kernel_rfl, by kernel_rfl⟩
noncomputable abbrev in_r03_Same (ct : CT) : Ent := .st (inlS tt ct n_r03_Same k_r03_Same rs_r03_Same 60 (Try.f50.body.getD .skip))
theorem in_r03_Same_ok {ct : CT} (h : CTok Try.prog ct) : EntOk Try.prog f_r03_Same (in_r03_Same ct) := inl_ok tt_ok h 60 fn_r03_Same rfl nt_r03_Same rfl cal_r03_Same (by kernel_rfl)
@[match_pattern] abbrev f_mem_Mem_Bytes : Nat := 51
theorem fn_mem_Mem_Bytes : Try.prog.funcs[f_mem_Mem_Bytes]? = some Try.f51 := Try.func51
abbrev n_mem_Mem_Bytes : Nat := 19
theorem nt_mem_Mem_Bytes : Try.f51.ntmps = n_mem_Mem_Bytes := Try.ntmps51
abbrev k_mem_Mem_Bytes : List Nat := [0, 2, 3, 5]
abbrev rs_mem_Mem_Bytes : List ResultVar := [.tmp 2]
theorem cal_mem_Mem_Bytes : Sx.Callee Try.prog f_mem_Mem_Bytes := ⟨_, Try.func51, by kernel_rfl, by kernel_rfl⟩
noncomputable abbrev in_mem_Mem_Bytes (ct : CT) : Ent := .st (inlS tt ct n_mem_Mem_Bytes k_mem_Mem_Bytes rs_mem_Mem_Bytes 60 (Try.f51.body.getD .skip))
theorem in_mem_Mem_Bytes_ok {ct : CT} (h : CTok Try.prog ct) : EntOk Try.prog f_mem_Mem_Bytes (in_mem_Mem_Bytes ct) := inl_ok tt_ok h 60 fn_mem_Mem_Bytes rfl nt_mem_Mem_Bytes rfl cal_mem_Mem_Bytes (by kernel_rfl)
@[match_pattern] abbrev f_r29_Nobody : Nat := 52
theorem fn_r29_Nobody : Try.prog.funcs[f_r29_Nobody]? = some Try.f52 := Try.func52
abbrev n_r29_Nobody : Nat := 13
theorem nt_r29_Nobody : Try.f52.ntmps = n_r29_Nobody := Try.ntmps52
abbrev k_r29_Nobody : List Nat := [0, 1, 2]
abbrev rs_r29_Nobody : List ResultVar := [.cell 2 32]
theorem cal_r29_Nobody : Sx.Callee Try.prog f_r29_Nobody := ⟨_, Try.func52, by kernel_rfl, by kernel_rfl⟩
noncomputable abbrev in_r29_Nobody (ct : CT) : Ent := .st (inlS tt ct n_r29_Nobody k_r29_Nobody rs_r29_Nobody 60 (Try.f52.body.getD .skip))
theorem in_r29_Nobody_ok {ct : CT} (h : CTok Try.prog ct) : EntOk Try.prog f_r29_Nobody (in_r29_Nobody ct) := inl_ok tt_ok h 60 fn_r29_Nobody rfl nt_r29_Nobody rfl cal_r29_Nobody (by kernel_rfl)
@[match_pattern] abbrev f_mem_Mem_Size : Nat := 53
theorem fn_mem_Mem_Size : Try.prog.funcs[f_mem_Mem_Size]? = some Try.f53 := Try.func53
abbrev n_mem_Mem_Size : Nat := 10
theorem nt_mem_Mem_Size : Try.f53.ntmps = n_mem_Mem_Size := Try.ntmps53
abbrev k_mem_Mem_Size : List Nat := [0, 2, 4]
abbrev rs_mem_Mem_Size : List ResultVar := [.tmp 2]
theorem cal_mem_Mem_Size : Sx.Callee Try.prog f_mem_Mem_Size := ⟨_, Try.func53, by kernel_rfl, by kernel_rfl⟩
noncomputable abbrev in_mem_Mem_Size (ct : CT) : Ent := .st (inlS tt ct n_mem_Mem_Size k_mem_Mem_Size rs_mem_Mem_Size 60 (Try.f53.body.getD .skip))
theorem in_mem_Mem_Size_ok {ct : CT} (h : CTok Try.prog ct) : EntOk Try.prog f_mem_Mem_Size (in_mem_Mem_Size ct) := inl_ok tt_ok h 60 fn_mem_Mem_Size rfl nt_mem_Mem_Size rfl cal_mem_Mem_Size (by kernel_rfl)
@[match_pattern] abbrev f_sched_chain_1 : Nat := 54
theorem fn_sched_chain_1 : Try.prog.funcs[f_sched_chain_1]? = some Try.f54 := Try.func54
abbrev n_sched_chain_1 : Nat := 39
theorem nt_sched_chain_1 : Try.f54.ntmps = n_sched_chain_1 := Try.ntmps54
abbrev k_sched_chain_1 : List Nat := [0, 1, 2, 3, 5, 6, 11, 38]
abbrev rs_sched_chain_1 : List ResultVar := []
theorem cal_sched_chain_1 : Sx.Callee Try.prog f_sched_chain_1 := ⟨_, Try.func54, by kernel_rfl, by kernel_rfl⟩
noncomputable abbrev in_sched_chain_1 (ct : CT) : Ent := .st (inlS tt ct n_sched_chain_1 k_sched_chain_1 rs_sched_chain_1 60 (Try.f54.body.getD .skip))
theorem in_sched_chain_1_ok {ct : CT} (h : CTok Try.prog ct) : EntOk Try.prog f_sched_chain_1 (in_sched_chain_1 ct) := inl_ok tt_ok h 60 fn_sched_chain_1 rfl nt_sched_chain_1 rfl cal_sched_chain_1 (by kernel_rfl)
@[match_pattern] abbrev f_sched_startp : Nat := 55
theorem fn_sched_startp : Try.prog.funcs[f_sched_startp]? = some Try.f55 := Try.func55
abbrev n_sched_startp : Nat := 52
theorem nt_sched_startp : Try.f55.ntmps = n_sched_startp := Try.ntmps55
abbrev k_sched_startp : List Nat := [0, 1, 2, 4, 5, 6, 30]
abbrev rs_sched_startp : List ResultVar := [.cell 4 32, .tmp 5]
theorem cal_sched_startp : Sx.Callee Try.prog f_sched_startp := ⟨_, Try.func55, by kernel_rfl, by kernel_rfl⟩
noncomputable abbrev in_sched_startp (ct : CT) : Ent := .st (inlS tt ct n_sched_startp k_sched_startp rs_sched_startp 60 (Try.f55.body.getD .skip))
theorem in_sched_startp_ok {ct : CT} (h : CTok Try.prog ct) : EntOk Try.prog f_sched_startp (in_sched_startp ct) := inl_ok tt_ok h 60 fn_sched_startp rfl nt_sched_startp rfl cal_sched_startp (by kernel_rfl)
@[match_pattern] abbrev f_sched_endp : Nat := 56
theorem fn_sched_endp : Try.prog.funcs[f_sched_endp]? = some Try.f56 := Try.func56
abbrev n_sched_endp : Nat := 46
theorem nt_sched_endp : Try.f56.ntmps = n_sched_endp := Try.ntmps56
abbrev k_sched_endp : List Nat := [0, 1, 2, 4, 5, 6, 7, 8, 25, 34]
abbrev rs_sched_endp : List ResultVar := [.cell 4 32, .tmp 5]
theorem cal_sched_endp : Sx.Callee Try.prog f_sched_endp := ⟨_, Try.func56, by kernel_rfl, by kernel_rfl⟩
noncomputable abbrev in_sched_endp (ct : CT) : Ent := .st (inlS tt ct n_sched_endp k_sched_endp rs_sched_endp 60 (Try.f56.body.getD .skip))
theorem in_sched_endp_ok {ct : CT} (h : CTok Try.prog ct) : EntOk Try.prog f_sched_endp (in_sched_endp ct) := inl_ok tt_ok h 60 fn_sched_endp rfl nt_sched_endp rfl cal_sched_endp (by kernel_rfl)
@[match_pattern] abbrev f_sched_runp : Nat := 57
theorem fn_sched_runp : Try.prog.funcs[f_sched_runp]? = some Try.f57 := Try.func57
abbrev n_sched_runp : Nat := 14
theorem nt_sched_runp : Try.f57.ntmps = n_sched_runp := Try.ntmps57
abbrev k_sched_runp : List Nat := [0, 1, 2, 4, 5]
abbrev rs_sched_runp : List ResultVar := [.cell 4 32, .tmp 5]
theorem cal_sched_runp : Sx.Callee Try.prog f_sched_runp := ⟨_, Try.func57, by kernel_rfl, by kernel_rfl⟩
noncomputable abbrev in_sched_runp (ct : CT) : Ent := .st (inlS tt ct n_sched_runp k_sched_runp rs_sched_runp 60 (Try.f57.body.getD .skip))
theorem in_sched_runp_ok {ct : CT} (h : CTok Try.prog ct) : EntOk Try.prog f_sched_runp (in_sched_runp ct) := inl_ok tt_ok h 60 fn_sched_runp rfl nt_sched_runp rfl cal_sched_runp (by kernel_rfl)
@[match_pattern] abbrev f_sched_stoperr : Nat := 58
theorem fn_sched_stoperr : Try.prog.funcs[f_sched_stoperr]? = some Try.f58 := Try.func58
abbrev n_sched_stoperr : Nat := 14
theorem nt_sched_stoperr : Try.f58.ntmps = n_sched_stoperr := Try.ntmps58
abbrev k_sched_stoperr : List Nat := [0, 1, 2, 4, 5, 7]
abbrev rs_sched_stoperr : List ResultVar := [.cell 4 32, .tmp 5]
theorem cal_sched_stoperr : Sx.Callee Try.prog f_sched_stoperr := ⟨_, Try.func58, by kernel_rfl, by kernel_rfl⟩
noncomputable abbrev in_sched_stoperr (ct : CT) : Ent := .st (inlS tt ct n_sched_stoperr k_sched_stoperr rs_sched_stoperr 60 (Try.f58.body.getD .skip))
theorem in_sched_stoperr_ok {ct : CT} (h : CTok Try.prog ct) : EntOk Try.prog f_sched_stoperr (in_sched_stoperr ct) := inl_ok tt_ok h 60 fn_sched_stoperr rfl nt_sched_stoperr rfl cal_sched_stoperr (by kernel_rfl)
@[match_pattern] abbrev f_sched_ldpri : Nat := 59
theorem fn_sched_ldpri : Try.prog.funcs[f_sched_ldpri]? = some Try.f59 := Try.func59
abbrev n_sched_ldpri : Nat := 17
theorem nt_sched_ldpri : Try.f59.ntmps = n_sched_ldpri := Try.ntmps59
abbrev k_sched_ldpri : List Nat := [0, 2, 4, 5]
abbrev rs_sched_ldpri : List ResultVar := [.cell 4 32, .tmp 5]
theorem cal_sched_ldpri : Sx.Callee Try.prog f_sched_ldpri := ⟨_, Try.func59, by kernel_rfl, by kernel_rfl⟩
noncomputable abbrev in_sched_ldpri (ct : CT) : Ent := .st (inlS tt ct n_sched_ldpri k_sched_ldpri rs_sched_ldpri 60 (Try.f59.body.getD .skip))
theorem in_sched_ldpri_ok {ct : CT} (h : CTok Try.prog ct) : EntOk Try.prog f_sched_ldpri (in_sched_ldpri ct) := inl_ok tt_ok h 60 fn_sched_ldpri rfl nt_sched_ldpri rfl cal_sched_ldpri (by kernel_rfl)
@[match_pattern] abbrev f_mem_Mem_span : Nat := 60
theorem fn_mem_Mem_span : Try.prog.funcs[f_mem_Mem_span]? = some Try.f60 := Try.func60
abbrev n_mem_Mem_span : Nat := 44
theorem nt_mem_Mem_span : Try.f60.ntmps = n_mem_Mem_span := Try.ntmps60
abbrev k_mem_Mem_span : List Nat := [0, 1, 2, 6, 7, 8, 10, 31]
abbrev rs_mem_Mem_span : List ResultVar := [.tmp 6, .tmp 7]
theorem cal_mem_Mem_span : Sx.Callee Try.prog f_mem_Mem_span := ⟨_, Try.func60, by kernel_rfl, by kernel_rfl⟩
noncomputable abbrev in_mem_Mem_span (ct : CT) : Ent := .st (inlS tt ct n_mem_Mem_span k_mem_Mem_span rs_mem_Mem_span 60 (Try.f60.body.getD .skip))
theorem in_mem_Mem_span_ok {ct : CT} (h : CTok Try.prog ct) : EntOk Try.prog f_mem_Mem_span (in_mem_Mem_span ct) := inl_ok tt_ok h 60 fn_mem_Mem_span rfl nt_mem_Mem_span rfl cal_mem_Mem_span (by kernel_rfl)
@[match_pattern] abbrev f_r29_Space : Nat := 61
theorem fn_r29_Space : Try.prog.funcs[f_r29_Space]? = some Try.f61 := Try.func61
abbrev n_r29_Space : Nat := 9
theorem nt_r29_Space : Try.f61.ntmps = n_r29_Space := Try.ntmps61
abbrev k_r29_Space : List Nat := [0, 2, 3]
abbrev rs_r29_Space : List ResultVar := [.tmp 2, .tmp 3]
theorem cal_r29_Space : Sx.Callee Try.prog f_r29_Space := ⟨_, Try.func61, by kernel_rfl, by kernel_rfl⟩
noncomputable abbrev in_r29_Space (ct : CT) : Ent := .st (inlS tt ct n_r29_Space k_r29_Space rs_r29_Space 60 (Try.f61.body.getD .skip))
theorem in_r29_Space_ok {ct : CT} (h : CTok Try.prog ct) : EntOk Try.prog f_r29_Space (in_r29_Space ct) := inl_ok tt_ok h 60 fn_r29_Space rfl nt_r29_Space rfl cal_r29_Space (by kernel_rfl)
@[match_pattern] abbrev f_r29_Valid : Nat := 62
theorem fn_r29_Valid : Try.prog.funcs[f_r29_Valid]? = some Try.f62 := Try.func62
abbrev n_r29_Valid : Nat := 19
theorem nt_r29_Valid : Try.f62.ntmps = n_r29_Valid := Try.ntmps62
abbrev k_r29_Valid : List Nat := [0, 1, 4]
abbrev rs_r29_Valid : List ResultVar := [.tmp 4]
theorem cal_r29_Valid : Sx.Callee Try.prog f_r29_Valid := ⟨_, Try.func62, by kernel_rfl, by kernel_rfl⟩
noncomputable abbrev in_r29_Valid (ct : CT) : Ent := .st (inlS tt ct n_r29_Valid k_r29_Valid rs_r29_Valid 60 (Try.f62.body.getD .skip))
theorem in_r29_Valid_ok {ct : CT} (h : CTok Try.prog ct) : EntOk Try.prog f_r29_Valid (in_r29_Valid ct) := inl_ok tt_ok h 60 fn_r29_Valid rfl nt_r29_Valid rfl cal_r29_Valid (by kernel_rfl)
@[match_pattern] abbrev f_r29_Set : Nat := 63
theorem fn_r29_Set : Try.prog.funcs[f_r29_Set]? = some Try.f63 := Try.func63
abbrev n_r29_Set : Nat := 22
theorem nt_r29_Set : Try.f63.ntmps = n_r29_Set := Try.ntmps63
abbrev k_r29_Set : List Nat := [0, 1, 2, 3, 8, 9]
abbrev rs_r29_Set : List ResultVar := [.tmp 8]
theorem cal_r29_Set : Sx.Callee Try.prog f_r29_Set := ⟨_, Try.func63, by kernel_rfl, by kernel_rfl⟩
noncomputable abbrev in_r29_Set (ct : CT) : Ent := .st (inlS tt ct n_r29_Set k_r29_Set rs_r29_Set 60 (Try.f63.body.getD .skip))
theorem in_r29_Set_ok {ct : CT} (h : CTok Try.prog ct) : EntOk Try.prog f_r29_Set (in_r29_Set ct) := inl_ok tt_ok h 60 fn_r29_Set rfl nt_r29_Set rfl cal_r29_Set (by kernel_rfl)
@[match_pattern] abbrev f_r29_Word : Nat := 64
theorem fn_r29_Word : Try.prog.funcs[f_r29_Word]? = some Try.f64 := Try.func64
abbrev n_r29_Word : Nat := 19
theorem nt_r29_Word : Try.f64.ntmps = n_r29_Word := Try.ntmps64
abbrev k_r29_Word : List Nat := [0, 1, 2, 6, 7]
abbrev rs_r29_Word : List ResultVar := [.tmp 6]
theorem cal_r29_Word : Sx.Callee Try.prog f_r29_Word := ⟨_, Try.func64, by kernel_rfl, by kernel_rfl⟩
noncomputable abbrev in_r29_Word (ct : CT) : Ent := .st (inlS tt ct n_r29_Word k_r29_Word rs_r29_Word 60 (Try.f64.body.getD .skip))
theorem in_r29_Word_ok {ct : CT} (h : CTok Try.prog ct) : EntOk Try.prog f_r29_Word (in_r29_Word ct) := inl_ok tt_ok h 60 fn_r29_Word rfl nt_r29_Word rfl cal_r29_Word (by kernel_rfl)
@[match_pattern] abbrev f_r29_start : Nat := 65
theorem fn_r29_start : Try.prog.funcs[f_r29_start]? = some Try.f65 := Try.func65
abbrev n_r29_start : Nat := 35
theorem nt_r29_start : Try.f65.ntmps = n_r29_start := Try.ntmps65
abbrev k_r29_start : List Nat := [0, 1, 2, 3, 6, 7, 8, 9, 10, 20]
abbrev rs_r29_start : List ResultVar := [.cell 6 32, .tmp 7]
theorem cal_r29_start : Sx.Callee Try.prog f_r29_start := ⟨_, Try.func65, by kernel_rfl, by kernel_rfl⟩
noncomputable abbrev in_r29_start (ct : CT) : Ent := .st (inlS tt ct n_r29_start k_r29_start rs_r29_start 60 (Try.f65.body.getD .skip))
theorem in_r29_start_ok {ct : CT} (h : CTok Try.prog ct) : EntOk Try.prog f_r29_start (in_r29_start ct) := inl_ok tt_ok h 60 fn_r29_start rfl nt_r29_start rfl cal_r29_start (by kernel_rfl)
@[match_pattern] abbrev f_r29_startp : Nat := 66
theorem fn_r29_startp : Try.prog.funcs[f_r29_startp]? = some Try.f66 := Try.func66
abbrev n_r29_startp : Nat := 46
theorem nt_r29_startp : Try.f66.ntmps = n_r29_startp := Try.ntmps66
abbrev k_r29_startp : List Nat := [0, 1, 2, 4, 5, 6, 7, 8, 9, 14, 39]
abbrev rs_r29_startp : List ResultVar := [.cell 4 32, .tmp 5, .tmp 6]
theorem cal_r29_startp : Sx.Callee Try.prog f_r29_startp := ⟨_, Try.func66, by kernel_rfl, by kernel_rfl⟩
noncomputable abbrev in_r29_startp (ct : CT) : Ent := .st (inlS tt ct n_r29_startp k_r29_startp rs_r29_startp 60 (Try.f66.body.getD .skip))
theorem in_r29_startp_ok {ct : CT} (h : CTok Try.prog ct) : EntOk Try.prog f_r29_startp (in_r29_startp ct) := inl_ok tt_ok h 60 fn_r29_startp rfl nt_r29_startp rfl cal_r29_startp (by kernel_rfl)
@[match_pattern] abbrev f_r29_endp : Nat := 67
theorem fn_r29_endp : Try.prog.funcs[f_r29_endp]? = some Try.f67 := Try.func67
abbrev n_r29_endp : Nat := 47
theorem nt_r29_endp : Try.f67.ntmps = n_r29_endp := Try.ntmps67
abbrev k_r29_endp : List Nat := [0, 1, 2, 4, 5, 6, 7, 8, 21, 33]
abbrev rs_r29_endp : List ResultVar := [.cell 4 32, .tmp 5, .tmp 6]
theorem cal_r29_endp : Sx.Callee Try.prog f_r29_endp := ⟨_, Try.func67, by kernel_rfl, by kernel_rfl⟩
noncomputable abbrev in_r29_endp (ct : CT) : Ent := .st (inlS tt ct n_r29_endp k_r29_endp rs_r29_endp 60 (Try.f67.body.getD .skip))
theorem in_r29_endp_ok {ct : CT} (h : CTok Try.prog ct) : EntOk Try.prog f_r29_endp (in_r29_endp ct) := inl_ok tt_ok h 60 fn_r29_endp rfl nt_r29_endp rfl cal_r29_endp (by kernel_rfl)
@[match_pattern] abbrev f_r29_clear : Nat := 68
theorem fn_r29_clear : Try.prog.funcs[f_r29_clear]? = some Try.f68 := Try.func68
abbrev n_r29_clear : Nat := 7
theorem nt_r29_clear : Try.f68.ntmps = n_r29_clear := Try.ntmps68
abbrev k_r29_clear : List Nat := [0, 1, 2]
abbrev rs_r29_clear : List ResultVar := [.cell 2 32]
theorem cal_r29_clear : Sx.Callee Try.prog f_r29_clear := ⟨_, Try.func68, by kernel_rfl, by kernel_rfl⟩
noncomputable abbrev in_r29_clear (ct : CT) : Ent := .st (inlS tt ct n_r29_clear k_r29_clear rs_r29_clear 60 (Try.f68.body.getD .skip))
theorem in_r29_clear_ok {ct : CT} (h : CTok Try.prog ct) : EntOk Try.prog f_r29_clear (in_r29_clear ct) := inl_ok tt_ok h 60 fn_r29_clear rfl nt_r29_clear rfl cal_r29_clear (by kernel_rfl)
@[match_pattern] abbrev f_r03_Lies : Nat := 69
theorem fn_r03_Lies : Try.prog.funcs[f_r03_Lies]? = some Try.f69 := Try.func69
abbrev n_r03_Lies : Nat := 24
theorem nt_r03_Lies : Try.f69.ntmps = n_r03_Lies := Try.ntmps69
abbrev k_r03_Lies : List Nat := [0, 1, 2, 6, 7]
abbrev rs_r03_Lies : List ResultVar := [.tmp 6]
theorem cal_r03_Lies : Sx.Callee Try.prog f_r03_Lies := ⟨_, Try.func69, by kernel_rfl, by kernel_rfl⟩
noncomputable abbrev in_r03_Lies (ct : CT) : Ent := .st (inlS tt ct n_r03_Lies k_r03_Lies rs_r03_Lies 60 (Try.f69.body.getD .skip))
theorem in_r03_Lies_ok {ct : CT} (h : CTok Try.prog ct) : EntOk Try.prog f_r03_Lies (in_r03_Lies ct) := inl_ok tt_ok h 60 fn_r03_Lies rfl nt_r03_Lies rfl cal_r03_Lies (by kernel_rfl)
@[match_pattern] abbrev f_r03_Index : Nat := 70
theorem fn_r03_Index : Try.prog.funcs[f_r03_Index]? = some Try.f70 := Try.func70
abbrev n_r03_Index : Nat := 6
theorem nt_r03_Index : Try.f70.ntmps = n_r03_Index := Try.ntmps70
abbrev k_r03_Index : List Nat := [0, 2]
abbrev rs_r03_Index : List ResultVar := [.tmp 2]
theorem cal_r03_Index : Sx.Callee Try.prog f_r03_Index := ⟨_, Try.func70, by kernel_rfl, by kernel_rfl⟩
noncomputable abbrev in_r03_Index (ct : CT) : Ent := .st (inlS tt ct n_r03_Index k_r03_Index rs_r03_Index 60 (Try.f70.body.getD .skip))
theorem in_r03_Index_ok {ct : CT} (h : CTok Try.prog ct) : EntOk Try.prog f_r03_Index (in_r03_Index ct) := inl_ok tt_ok h 60 fn_r03_Index rfl nt_r03_Index rfl cal_r03_Index (by kernel_rfl)
@[match_pattern] abbrev f_r03_put : Nat := 71
theorem fn_r03_put : Try.prog.funcs[f_r03_put]? = some Try.f71 := Try.func71
abbrev n_r03_put : Nat := 24
theorem nt_r03_put : Try.f71.ntmps = n_r03_put := Try.ntmps71
abbrev k_r03_put : List Nat := [0, 1, 2, 6, 7]
abbrev rs_r03_put : List ResultVar := [.tmp 6]
theorem cal_r03_put : Sx.Callee Try.prog f_r03_put := ⟨_, Try.func71, by kernel_rfl, by kernel_rfl⟩
noncomputable abbrev in_r03_put (ct : CT) : Ent := .st (inlS tt ct n_r03_put k_r03_put rs_r03_put 60 (Try.f71.body.getD .skip))
theorem in_r03_put_ok {ct : CT} (h : CTok Try.prog ct) : EntOk Try.prog f_r03_put (in_r03_put ct) := inl_ok tt_ok h 60 fn_r03_put rfl nt_r03_put rfl cal_r03_put (by kernel_rfl)
@[match_pattern] abbrev f_r03_Four : Nat := 72
theorem fn_r03_Four : Try.prog.funcs[f_r03_Four]? = some Try.f72 := Try.func72
abbrev n_r03_Four : Nat := 18
theorem nt_r03_Four : Try.f72.ntmps = n_r03_Four := Try.ntmps72
abbrev k_r03_Four : List Nat := [0, 2, 3]
abbrev rs_r03_Four : List ResultVar := [.tmp 2]
theorem cal_r03_Four : Sx.Callee Try.prog f_r03_Four := ⟨_, Try.func72, by kernel_rfl, by kernel_rfl⟩
noncomputable abbrev in_r03_Four (ct : CT) : Ent := .st (inlS tt ct n_r03_Four k_r03_Four rs_r03_Four 60 (Try.f72.body.getD .skip))
theorem in_r03_Four_ok {ct : CT} (h : CTok Try.prog ct) : EntOk Try.prog f_r03_Four (in_r03_Four ct) := inl_ok tt_ok h 60 fn_r03_Four rfl nt_r03_Four rfl cal_r03_Four (by kernel_rfl)
@[match_pattern] abbrev f_mem_Mem_none : Nat := 73
theorem fn_mem_Mem_none : Try.prog.funcs[f_mem_Mem_none]? = some Try.f73 := Try.func73
abbrev n_mem_Mem_none : Nat := 13
theorem nt_mem_Mem_none : Try.f73.ntmps = n_mem_Mem_none := Try.ntmps73
abbrev k_mem_Mem_none : List Nat := [0, 2]
abbrev rs_mem_Mem_none : List ResultVar := [.tmp 2]
theorem cal_mem_Mem_none : Sx.Callee Try.prog f_mem_Mem_none := ⟨_, Try.func73, by kernel_rfl, by kernel_rfl⟩
noncomputable abbrev in_mem_Mem_none (ct : CT) : Ent := .st (inlS tt ct n_mem_Mem_none k_mem_Mem_none rs_mem_Mem_none 60 (Try.f73.body.getD .skip))
theorem in_mem_Mem_none_ok {ct : CT} (h : CTok Try.prog ct) : EntOk Try.prog f_mem_Mem_none (in_mem_Mem_none ct) := inl_ok tt_ok h 60 fn_mem_Mem_none rfl nt_mem_Mem_none rfl cal_mem_Mem_none (by kernel_rfl)
@[match_pattern] abbrev f_sched_clear : Nat := 74
theorem fn_sched_clear : Try.prog.funcs[f_sched_clear]? = some Try.f74 := Try.func74
abbrev n_sched_clear : Nat := 7
theorem nt_sched_clear : Try.f74.ntmps = n_sched_clear := Try.ntmps74
abbrev k_sched_clear : List Nat := [0, 1, 2]
abbrev rs_sched_clear : List ResultVar := [.cell 2 32]
theorem cal_sched_clear : Sx.Callee Try.prog f_sched_clear := ⟨_, Try.func74, by kernel_rfl, by kernel_rfl⟩
noncomputable abbrev in_sched_clear (ct : CT) : Ent := .st (inlS tt ct n_sched_clear k_sched_clear rs_sched_clear 60 (Try.f74.body.getD .skip))
theorem in_sched_clear_ok {ct : CT} (h : CTok Try.prog ct) : EntOk Try.prog f_sched_clear (in_sched_clear ct) := inl_ok tt_ok h 60 fn_sched_clear rfl nt_sched_clear rfl cal_sched_clear (by kernel_rfl)
@[match_pattern] abbrev f_r03_Word : Nat := 75
theorem fn_r03_Word : Try.prog.funcs[f_r03_Word]? = some Try.f75 := Try.func75
abbrev n_r03_Word : Nat := 50
theorem nt_r03_Word : Try.f75.ntmps = n_r03_Word := Try.ntmps75
abbrev k_r03_Word : List Nat := [0, 1, 4, 5, 6, 7, 12]
abbrev rs_r03_Word : List ResultVar := [.tmp 4, .tmp 5]
theorem cal_r03_Word : Sx.Callee Try.prog f_r03_Word := ⟨_, Try.func75, by kernel_rfl, by kernel_rfl⟩
noncomputable abbrev in_r03_Word (ct : CT) : Ent := .st (inlS tt ct n_r03_Word k_r03_Word rs_r03_Word 60 (Try.f75.body.getD .skip))
theorem in_r03_Word_ok {ct : CT} (h : CTok Try.prog ct) : EntOk Try.prog f_r03_Word (in_r03_Word ct) := inl_ok tt_ok h 60 fn_r03_Word rfl nt_r03_Word rfl cal_r03_Word (by kernel_rfl)
end Go.Proofs
