/- Part of a proof. -/
import Derived.Test.YtbefefoegbfamaaSxB
import Derived.Test.YtbefefoegbfamaaProg

namespace Go.Proofs
open Go Go.Sx
def ti2 : TI := { size := 1, zv := .int .i64 0, agg := false, kd := .int .i64 }
theorem tok2 : TIok Try.prog 2 ti2 := ⟨by kernel_rfl, by kernel_rfl, by kernel_rfl, by kernel_rfl, fun _ h => by cases h⟩
def ti3 : TI := { size := 1, zv := .int .i64 0, agg := false, kd := .int .i64 }
theorem tok3 : TIok Try.prog 3 ti3 := ⟨by kernel_rfl, by kernel_rfl, by kernel_rfl, by kernel_rfl, fun _ h => by cases h⟩
def ti4 : TI := { size := 1, zv := .bool false, agg := false, kd := .bool }
theorem tok4 : TIok Try.prog 4 ti4 := ⟨by kernel_rfl, by kernel_rfl, by kernel_rfl, by kernel_rfl, fun _ h => by cases h⟩
def ti5 : TI := { size := 1, zv := .int .u8 0, agg := false, kd := .int .u8 }
theorem tok5 : TIok Try.prog 5 ti5 := ⟨by kernel_rfl, by kernel_rfl, by kernel_rfl, by kernel_rfl, fun _ h => by cases h⟩
def ti9 : TI := { size := 1, zv := .string ByteArray.empty, agg := false, kd := .str }
theorem tok9 : TIok Try.prog 9 ti9 := ⟨by kernel_rfl, by kernel_rfl, by kernel_rfl, by kernel_rfl, fun _ h => by cases h⟩
def ti21 : TI := { size := 1, zv := .int .i32 0, agg := false, kd := .int .i32 }
theorem tok21 : TIok Try.prog 21 ti21 := ⟨by kernel_rfl, by kernel_rfl, by kernel_rfl, by kernel_rfl, fun _ h => by cases h⟩
def ti22 : TI := { size := 1, zv := .slice none 0 0, agg := false, kd := .slice 5 1 1 }
theorem tok22 : TIok Try.prog 22 ti22 := ⟨by kernel_rfl, by kernel_rfl, by kernel_rfl, by kernel_rfl, fun _ h => by cases h⟩
def ti23 : TI := { size := 1, zv := .int .u64 0, agg := false, kd := .int .u64 }
theorem tok23 : TIok Try.prog 23 ti23 := ⟨by kernel_rfl, by kernel_rfl, by kernel_rfl, by kernel_rfl, fun _ h => by cases h⟩
def ti24 : TI := { size := 2, zv := .agg #[.slice none 0 0, .slice none 0 0], agg := true, kd := .arr 2 1 false }
theorem tok24 : TIok Try.prog 24 ti24 := ⟨by kernel_rfl, by kernel_rfl, by kernel_rfl, by kernel_rfl, fun _ h => by cases h⟩
def ti26 : TI := { size := 2, zv := .agg #[.int .u8 0, .int .i32 0], agg := true, kd := .struct [(0, (1, false)), (1, (1, false))], flat := some [some .u8, some .i32] }
theorem tok26 : TIok Try.prog 26 ti26 := ⟨by kernel_rfl, by kernel_rfl, by kernel_rfl, by kernel_rfl, fun _ h => by cases h; exact flatEq_of (by kernel_rfl) (by kernel_rfl) (by kernel_rfl)⟩
def ti27 : TI := { size := 1, zv := .int .i64 0, agg := false, kd := .int .i64 }
theorem tok27 : TIok Try.prog 27 ti27 := ⟨by kernel_rfl, by kernel_rfl, by kernel_rfl, by kernel_rfl, fun _ h => by cases h⟩
def ti41 : TI := { size := 2, zv := .agg #[.int .i64 0, .int .i64 0], agg := true, kd := .arr 2 1 false }
theorem tok41 : TIok Try.prog 41 ti41 := ⟨by kernel_rfl, by kernel_rfl, by kernel_rfl, by kernel_rfl, fun _ h => by cases h⟩
def ti47 : TI := { size := 1, zv := .slice none 0 0, agg := false, kd := .slice 26 2 8 }
theorem tok47 : TIok Try.prog 47 ti47 := ⟨by kernel_rfl, by kernel_rfl, by kernel_rfl, by kernel_rfl, fun _ h => by cases h⟩
abbrev tt : TT := [(2, ti2), (3, ti3), (4, ti4), (5, ti5), (9, ti9), (21, ti21), (22, ti22), (23, ti23), (24, ti24), (26, ti26), (27, ti27), (41, ti41), (47, ti47)]
theorem tt_ok : TTok Try.prog tt := ⟨tok2, tok3, tok4, tok5, tok9, tok21, tok22, tok23, tok24, tok26, tok27, tok41, tok47, trivial⟩
abbrev ks2 : List Nat := []
theorem cal2 : Sx.Callee Try.prog 2 := ⟨_, Try.func2, by kernel_rfl, by kernel_rfl⟩
abbrev ks3 : List Nat := [0, 1, 2, 6, 7, 8, 9, 11, 12, 13, 14, 15, 16, 17, 18, 28, 36, 52, 53, 54, 90]
theorem cal3 : Sx.Callee Try.prog 3 := ⟨_, Try.func3, by kernel_rfl, by kernel_rfl⟩
abbrev ks4 : List Nat := [0, 1, 4, 5, 6, 7, 8, 9, 10, 12, 13, 31, 40]
theorem cal4 : Sx.Callee Try.prog 4 := ⟨_, Try.func4, by kernel_rfl, by kernel_rfl⟩
abbrev ks5 : List Nat := [0, 2, 3, 4, 5, 6, 7, 8, 9, 10, 23]
theorem cal5 : Sx.Callee Try.prog 5 := ⟨_, Try.func5, by kernel_rfl, by kernel_rfl⟩
abbrev ks6 : List Nat := [0, 1, 2, 4, 5, 6, 7, 8, 10, 11, 12, 13, 14, 41, 45, 46, 47, 70]
theorem cal6 : Sx.Callee Try.prog 6 := ⟨_, Try.func6, by kernel_rfl, by kernel_rfl⟩
abbrev ks7 : List Nat := [0, 1, 2, 4, 5, 6, 7, 8, 9, 10, 11, 12, 22, 58]
theorem cal7 : Sx.Callee Try.prog 7 := ⟨_, Try.func7, by kernel_rfl, by kernel_rfl⟩
abbrev ks8 : List Nat := [0, 1, 4, 5, 6, 7, 8, 9, 10, 11, 12, 13, 14]
theorem cal8 : Sx.Callee Try.prog 8 := ⟨_, Try.func8, by kernel_rfl, by kernel_rfl⟩
abbrev ks9 : List Nat := [0, 2, 3, 4, 5, 6, 7, 8, 9, 10, 11, 12, 13, 15, 22, 23, 24, 56, 58, 59, 60, 88]
theorem cal9 : Sx.Callee Try.prog 9 := ⟨_, Try.func9, by kernel_rfl, by kernel_rfl⟩
abbrev ks10 : List Nat := [0, 1, 2, 4, 6, 7, 8, 10, 12, 14, 15, 18, 21, 22, 23, 24, 27, 28, 29, 30, 32, 33, 34, 36, 37, 38, 40, 41, 42, 44, 45]
theorem cal10 : Sx.Callee Try.prog 10 := ⟨_, Try.func10, by kernel_rfl, by kernel_rfl⟩
abbrev ks11 : List Nat := [0, 2, 3, 4, 5, 6, 7, 10, 11, 12, 27, 33, 37, 45]
theorem cal11 : Sx.Callee Try.prog 11 := ⟨_, Try.func11, by kernel_rfl, by kernel_rfl⟩
abbrev ks12 : List Nat := [0, 2, 3, 4, 5, 6, 7, 15, 36, 44, 53]
theorem cal12 : Sx.Callee Try.prog 12 := ⟨_, Try.func12, by kernel_rfl, by kernel_rfl⟩
abbrev ks13 : List Nat := [0, 1, 2, 3]
theorem cal13 : Sx.Callee Try.prog 13 := ⟨_, Try.func13, by kernel_rfl, by kernel_rfl⟩
abbrev ks14 : List Nat := [0, 1, 2, 3, 6]
theorem cal14 : Sx.Callee Try.prog 14 := ⟨_, Try.func14, by kernel_rfl, by kernel_rfl⟩
abbrev ks15 : List Nat := [0, 1, 2, 5]
theorem cal15 : Sx.Callee Try.prog 15 := ⟨_, Try.func15, by kernel_rfl, by kernel_rfl⟩
abbrev ks16 : List Nat := [0, 1, 2, 3, 6]
theorem cal16 : Sx.Callee Try.prog 16 := ⟨_, Try.func16, by kernel_rfl, by kernel_rfl⟩
abbrev ks17 : List Nat := [0, 1, 2, 3]
theorem cal17 : Sx.Callee Try.prog 17 := ⟨_, Try.func17, by kernel_rfl, by kernel_rfl⟩
abbrev ks18 : List Nat := [0, 1, 2, 4, 5, 6, 7, 11, 16, 22, 23, 24]
theorem cal18 : Sx.Callee Try.prog 18 := ⟨_, Try.func18, by kernel_rfl, by kernel_rfl⟩
abbrev ks19 : List Nat := [0, 1, 2, 4, 5, 6, 7, 8, 12, 16, 18, 23]
theorem cal19 : Sx.Callee Try.prog 19 := ⟨_, Try.func19, by kernel_rfl, by kernel_rfl⟩
abbrev ks20 : List Nat := [0, 1, 2, 14]
theorem cal20 : Sx.Callee Try.prog 20 := ⟨_, Try.func20, by kernel_rfl, by kernel_rfl⟩
abbrev ks21 : List Nat := [0, 2, 3, 4, 6, 7, 9, 10, 11, 12, 13, 18, 25, 28, 29, 30, 31]
theorem cal21 : Sx.Callee Try.prog 21 := ⟨_, Try.func21, by kernel_rfl, by kernel_rfl⟩
abbrev ks22 : List Nat := [0, 2, 3, 4, 5, 6, 7, 12, 20, 24, 40]
theorem cal22 : Sx.Callee Try.prog 22 := ⟨_, Try.func22, by kernel_rfl, by kernel_rfl⟩
abbrev ks23 : List Nat := [0, 2, 3, 4, 5, 6, 7, 10, 12, 16]
theorem cal23 : Sx.Callee Try.prog 23 := ⟨_, Try.func23, by kernel_rfl, by kernel_rfl⟩
abbrev ks24 : List Nat := [0, 2, 3, 4, 5, 6, 7, 8, 11, 15, 25]
theorem cal24 : Sx.Callee Try.prog 24 := ⟨_, Try.func24, by kernel_rfl, by kernel_rfl⟩
abbrev ks25 : List Nat := [0, 1, 4, 5, 10, 14, 25]
theorem cal25 : Sx.Callee Try.prog 25 := ⟨_, Try.func25, by kernel_rfl, by kernel_rfl⟩
abbrev ks26 : List Nat := [0, 1, 2, 6, 7, 8]
theorem cal26 : Sx.Callee Try.prog 26 := ⟨_, Try.func26, by kernel_rfl, by kernel_rfl⟩
abbrev ks27 : List Nat := [0, 2, 3, 4, 6]
theorem cal27 : Sx.Callee Try.prog 27 := ⟨_, Try.func27, by kernel_rfl, by kernel_rfl⟩
abbrev ks28 : List Nat := [0, 2, 6, 10]
theorem cal28 : Sx.Callee Try.prog 28 := ⟨_, Try.func28, by kernel_rfl, by kernel_rfl⟩
abbrev ks29 : List Nat := [0, 1, 2]
theorem cal29 : Sx.Callee Try.prog 29 := ⟨_, Try.func29, by kernel_rfl, by kernel_rfl⟩
abbrev ks30 : List Nat := [0, 1, 2, 6, 7, 15]
theorem cal30 : Sx.Callee Try.prog 30 := ⟨_, Try.func30, by kernel_rfl, by kernel_rfl⟩
abbrev ks31 : List Nat := [0, 1, 2]
theorem cal31 : Sx.Callee Try.prog 31 := ⟨_, Try.func31, by kernel_rfl, by kernel_rfl⟩
abbrev ks32 : List Nat := [0, 1, 4, 5, 7, 12]
theorem cal32 : Sx.Callee Try.prog 32 := ⟨_, Try.func32, by kernel_rfl, by kernel_rfl⟩
abbrev ks33 : List Nat := [0, 1, 2]
theorem cal33 : Sx.Callee Try.prog 33 := ⟨_, Try.func33, by kernel_rfl, by kernel_rfl⟩
abbrev ks34 : List Nat := [0, 1, 3, 4, 5, 8, 23]
theorem cal34 : Sx.Callee Try.prog 34 := ⟨_, Try.func34, by kernel_rfl, by kernel_rfl⟩
end Go.Proofs
