/-
  No cell of these rows narrows 'for every input' (looked for: loops, veiled, ifaces, maps, wideKeys, modest, calm, conditions, laid).
  DERIVED. THE GIVEN ROWS OF THIS SEAT. 7 by the template 'for every input the law returns true; each argument reads behind the call as it read before'; 0 by the template 'total and deterministic' (their statements: YtgmjidajikhimaaGreatTotals.lean).
  GIVEN WITH THE SEED: the statements are not yours to turn. If you find one false, say at which input.
  Laid BY PROGRAM, IN A SANDBOX (cutbox-rows.mjs): the forced cells as the released guide's own fill.sh prints them over the translation 6c244047ca29e9e3… (all of the seat's roots in one cut). By AI agents, Wed Nov 11 2026. No macro, syntax, notation, axiom, sorry.
-/
import Derived.Test.YtgmjidajikhimaaGreatChecked
import GoSem.Claim
import GoSem.ClaimJoined
import GoSem.ClaimMapViews
import Derived.JoinedTies
import Derived.KernelRfl
namespace Go.Proofs.YtgmjidajikhimaaGreat
/- THE CELL 'sum', in the pinned program and in every row, IS THE sha256 OF THE DUMP (.gsa) THAT YtgmjidajikhimaaGreatProg.lean LOADS. Nothing in Lean hashes anything: it is a label: what it is worth is what the hold of that sum in a sandbox is worth. -/
noncomputable def Tryz.pinned : Pinned := { name := "ytgmjidajikhimaagreat", sum := "6c244047ca29e9e3aa8a99b50c310b2dad58559bb93796bfd632cf6f2c1802f9", checked := Tryz.checked }
namespace Rows
def none {H : Type} : Left H := { results := [], args := [] }

/-- 'transputerlaw28.CpuExecs': WHATEVER THE INPUT: true; the input reads as it did. -/
def cpuExecsSpec : ChangeSpec := { name := "cpuExecs", fn := fun _ => fun
  | [d1, d2, d3, d4, d5] => { results := [.lit (.bool true)], args := [d1, d2, d3, d4, d5] }
  | _ => none }
def cpuExecsRow : OpenClaim := { program := "ytgmjidajikhimaagreat", sum := "6c244047ca29e9e3aa8a99b50c310b2dad58559bb93796bfd632cf6f2c1802f9", func := "transputer/transputerlaw28.CpuExecs", spec := "cpuExecs", unfollowed := true, recurses := true, named := ["math/bits.overflowError"], apart := false }
def CpuExecsSaid : Prop := cpuExecsRow.holds Tryz.pinned (OpenSpec.ofChange cpuExecsSpec)

/-- ITS FALSE NEIGHBOUR: 'it returns false'. Refute it at one input. -/
def cpuExecsWrong : ChangeSpec := { name := "cpuExecs", fn := fun _ => fun
  | [d1, d2, d3, d4, d5] => { results := [.lit (.bool false)], args := [d1, d2, d3, d4, d5] }
  | _ => none }
def CpuExecsWrongFalsely : Prop := cpuExecsRow.holds Tryz.pinned (OpenSpec.ofChange cpuExecsWrong)

/-- 'transputerlaw28.CpuQuiet': WHATEVER THE INPUT: true; the input reads as it did. -/
def cpuQuietSpec : ChangeSpec := { name := "cpuQuiet", fn := fun _ => fun
  | [d1, d2, d3] => { results := [.lit (.bool true)], args := [d1, d2, d3] }
  | _ => none }
def cpuQuietRow : OpenClaim := { program := "ytgmjidajikhimaagreat", sum := "6c244047ca29e9e3aa8a99b50c310b2dad58559bb93796bfd632cf6f2c1802f9", func := "transputer/transputerlaw28.CpuQuiet", spec := "cpuQuiet", unfollowed := true, recurses := true, named := ["math/bits.overflowError"], apart := false }
def CpuQuietSaid : Prop := cpuQuietRow.holds Tryz.pinned (OpenSpec.ofChange cpuQuietSpec)

/-- ITS FALSE NEIGHBOUR: 'it returns false'. Refute it at one input. -/
def cpuQuietWrong : ChangeSpec := { name := "cpuQuiet", fn := fun _ => fun
  | [d1, d2, d3] => { results := [.lit (.bool false)], args := [d1, d2, d3] }
  | _ => none }
def CpuQuietWrongFalsely : Prop := cpuQuietRow.holds Tryz.pinned (OpenSpec.ofChange cpuQuietWrong)

/-- 'transputerlaw28.CpuMine': WHATEVER THE INPUT: true; the input reads as it did. -/
def cpuMineSpec : ChangeSpec := { name := "cpuMine", fn := fun _ => fun
  | [d1, d2] => { results := [.lit (.bool true)], args := [d1, d2] }
  | _ => none }
def cpuMineRow : OpenClaim := { program := "ytgmjidajikhimaagreat", sum := "6c244047ca29e9e3aa8a99b50c310b2dad58559bb93796bfd632cf6f2c1802f9", func := "transputer/transputerlaw28.CpuMine", spec := "cpuMine", unfollowed := true, recurses := true, named := ["math/bits.overflowError"], apart := false }
def CpuMineSaid : Prop := cpuMineRow.holds Tryz.pinned (OpenSpec.ofChange cpuMineSpec)

/-- ITS FALSE NEIGHBOUR: 'it returns false'. Refute it at one input. -/
def cpuMineWrong : ChangeSpec := { name := "cpuMine", fn := fun _ => fun
  | [d1, d2] => { results := [.lit (.bool false)], args := [d1, d2] }
  | _ => none }
def CpuMineWrongFalsely : Prop := cpuMineRow.holds Tryz.pinned (OpenSpec.ofChange cpuMineWrong)

/-- 'transputerlaw28.CpuCalls': WHATEVER THE INPUT: true; the input reads as it did. -/
def cpuCallsSpec : ChangeSpec := { name := "cpuCalls", fn := fun _ => fun
  | [d1, d2, d3, d4, d5] => { results := [.lit (.bool true)], args := [d1, d2, d3, d4, d5] }
  | _ => none }
def cpuCallsRow : OpenClaim := { program := "ytgmjidajikhimaagreat", sum := "6c244047ca29e9e3aa8a99b50c310b2dad58559bb93796bfd632cf6f2c1802f9", func := "transputer/transputerlaw28.CpuCalls", spec := "cpuCalls", unfollowed := true, recurses := true, named := ["math/bits.overflowError"], apart := false }
def CpuCallsSaid : Prop := cpuCallsRow.holds Tryz.pinned (OpenSpec.ofChange cpuCallsSpec)

/-- ITS FALSE NEIGHBOUR: 'it returns false'. Refute it at one input. -/
def cpuCallsWrong : ChangeSpec := { name := "cpuCalls", fn := fun _ => fun
  | [d1, d2, d3, d4, d5] => { results := [.lit (.bool false)], args := [d1, d2, d3, d4, d5] }
  | _ => none }
def CpuCallsWrongFalsely : Prop := cpuCallsRow.holds Tryz.pinned (OpenSpec.ofChange cpuCallsWrong)

/-- 'transputerlaw28.CpuDouble': WHATEVER THE INPUT: true; the input reads as it did. -/
def cpuDoubleSpec : ChangeSpec := { name := "cpuDouble", fn := fun _ => fun
  | [d1, d2, d3, d4] => { results := [.lit (.bool true)], args := [d1, d2, d3, d4] }
  | _ => none }
def cpuDoubleRow : OpenClaim := { program := "ytgmjidajikhimaagreat", sum := "6c244047ca29e9e3aa8a99b50c310b2dad58559bb93796bfd632cf6f2c1802f9", func := "transputer/transputerlaw28.CpuDouble", spec := "cpuDouble", unfollowed := true, recurses := true, named := ["math/bits.overflowError"], apart := false }
def CpuDoubleSaid : Prop := cpuDoubleRow.holds Tryz.pinned (OpenSpec.ofChange cpuDoubleSpec)

/-- ITS FALSE NEIGHBOUR: 'it returns false'. Refute it at one input. -/
def cpuDoubleWrong : ChangeSpec := { name := "cpuDouble", fn := fun _ => fun
  | [d1, d2, d3, d4] => { results := [.lit (.bool false)], args := [d1, d2, d3, d4] }
  | _ => none }
def CpuDoubleWrongFalsely : Prop := cpuDoubleRow.holds Tryz.pinned (OpenSpec.ofChange cpuDoubleWrong)

/-- 'transputerlaw28.CpuLoop': WHATEVER THE INPUT: true; the input reads as it did. -/
def cpuLoopSpec : ChangeSpec := { name := "cpuLoop", fn := fun _ => fun
  | [d1, d2, d3] => { results := [.lit (.bool true)], args := [d1, d2, d3] }
  | _ => none }
def cpuLoopRow : OpenClaim := { program := "ytgmjidajikhimaagreat", sum := "6c244047ca29e9e3aa8a99b50c310b2dad58559bb93796bfd632cf6f2c1802f9", func := "transputer/transputerlaw28.CpuLoop", spec := "cpuLoop", unfollowed := true, recurses := true, named := ["math/bits.overflowError"], apart := false }
def CpuLoopSaid : Prop := cpuLoopRow.holds Tryz.pinned (OpenSpec.ofChange cpuLoopSpec)

/-- ITS FALSE NEIGHBOUR: 'it returns false'. Refute it at one input. -/
def cpuLoopWrong : ChangeSpec := { name := "cpuLoop", fn := fun _ => fun
  | [d1, d2, d3] => { results := [.lit (.bool false)], args := [d1, d2, d3] }
  | _ => none }
def CpuLoopWrongFalsely : Prop := cpuLoopRow.holds Tryz.pinned (OpenSpec.ofChange cpuLoopWrong)

/-- 'transputerlaw28.CpuKnown': WHATEVER THE INPUT: true; the input reads as it did. -/
def cpuKnownSpec : ChangeSpec := { name := "cpuKnown", fn := fun _ => fun
  | [] => { results := [.lit (.bool true)], args := [] }
  | _ => none }
def cpuKnownRow : OpenClaim := { program := "ytgmjidajikhimaagreat", sum := "6c244047ca29e9e3aa8a99b50c310b2dad58559bb93796bfd632cf6f2c1802f9", func := "transputer/transputerlaw28.CpuKnown", spec := "cpuKnown", unfollowed := true, recurses := true, named := ["math/bits.overflowError"], apart := false }
def CpuKnownSaid : Prop := cpuKnownRow.holds Tryz.pinned (OpenSpec.ofChange cpuKnownSpec)

/-- ITS FALSE NEIGHBOUR: 'it returns false'. Refute it at one input. -/
def cpuKnownWrong : ChangeSpec := { name := "cpuKnown", fn := fun _ => fun
  | [] => { results := [.lit (.bool false)], args := [] }
  | _ => none }
def CpuKnownWrongFalsely : Prop := cpuKnownRow.holds Tryz.pinned (OpenSpec.ofChange cpuKnownWrong)

/- THE SECOND FORM. 'bulk': how many values and letters a reading holds, each counted each time it is reached (what is shared counts as often as it is met; a slice's spare places count too). A statement '..UptoSaid' is the law's where the arguments, and the package variables that the reading takes, are together of bulk at most 1048576: NARROWER than '..Said'. Prove '..Said' where nothing that the law and all that it calls make is longer than what came in: it says more and counts as full. Else prove '..UptoSaid'. A law counts once. -/
mutual
def uptoBulk {H : Type} : DataW H → Nat
  | .lit (.string bytes) => bytes.length + 1
  | .lit _ => 1
  | .nil => 1
  | .ptr d => uptoBulk d + 1
  | .slice elems spare => uptoBulkAll elems + uptoBulkAll spare + 1
  | .agg parts => uptoBulkAll parts + 1
  | .iface _ d => uptoBulk d + 1
  | .map entries => uptoBulkEntries entries + 1
  | .held _ => 1
def uptoBulkAll {H : Type} : List (DataW H) → Nat
  | [] => 0
  | d :: r => uptoBulk d + uptoBulkAll r
def uptoBulkEntries {H : Type} : List (Lit × DataW H) → Nat
  | [] => 0
  | x :: r => uptoBulkEntry x + uptoBulkEntries r
def uptoBulkEntry {H : Type} : Lit × DataW H → Nat
  | (.string bytes, d) => bytes.length + uptoBulk d + 1
  | (_, d) => uptoBulk d + 1
 end
def uptoSmall : (H : Type) → List (DataW H) → Bool := fun _ ds => decide (uptoBulkAll ds ≤ 1048576)
def OpenSpec.upto (s : _root_.Go.ChangeSpec) : _root_.Go.OpenSpec := { _root_.Go.OpenSpec.ofChange s with cond := some uptoSmall }

/-- 'transputerlaw28.CpuExecs', WHERE WHAT IT READS IS OF BULK AT MOST 1048576: true; the input reads as it did. -/
def cpuExecsUptoRow : OpenClaim := { program := "ytgmjidajikhimaagreat", sum := "6c244047ca29e9e3aa8a99b50c310b2dad58559bb93796bfd632cf6f2c1802f9", func := "transputer/transputerlaw28.CpuExecs", spec := "cpuExecs", unfollowed := true, recurses := true, named := ["math/bits.overflowError"], apart := false, narrowed := true }
def CpuExecsUptoSaid : Prop := cpuExecsUptoRow.holds Tryz.pinned (OpenSpec.upto cpuExecsSpec)

/-- 'transputerlaw28.CpuQuiet', WHERE WHAT IT READS IS OF BULK AT MOST 1048576: true; the input reads as it did. -/
def cpuQuietUptoRow : OpenClaim := { program := "ytgmjidajikhimaagreat", sum := "6c244047ca29e9e3aa8a99b50c310b2dad58559bb93796bfd632cf6f2c1802f9", func := "transputer/transputerlaw28.CpuQuiet", spec := "cpuQuiet", unfollowed := true, recurses := true, named := ["math/bits.overflowError"], apart := false, narrowed := true }
def CpuQuietUptoSaid : Prop := cpuQuietUptoRow.holds Tryz.pinned (OpenSpec.upto cpuQuietSpec)

/-- 'transputerlaw28.CpuMine', WHERE WHAT IT READS IS OF BULK AT MOST 1048576: true; the input reads as it did. -/
def cpuMineUptoRow : OpenClaim := { program := "ytgmjidajikhimaagreat", sum := "6c244047ca29e9e3aa8a99b50c310b2dad58559bb93796bfd632cf6f2c1802f9", func := "transputer/transputerlaw28.CpuMine", spec := "cpuMine", unfollowed := true, recurses := true, named := ["math/bits.overflowError"], apart := false, narrowed := true }
def CpuMineUptoSaid : Prop := cpuMineUptoRow.holds Tryz.pinned (OpenSpec.upto cpuMineSpec)

/-- 'transputerlaw28.CpuCalls', WHERE WHAT IT READS IS OF BULK AT MOST 1048576: true; the input reads as it did. -/
def cpuCallsUptoRow : OpenClaim := { program := "ytgmjidajikhimaagreat", sum := "6c244047ca29e9e3aa8a99b50c310b2dad58559bb93796bfd632cf6f2c1802f9", func := "transputer/transputerlaw28.CpuCalls", spec := "cpuCalls", unfollowed := true, recurses := true, named := ["math/bits.overflowError"], apart := false, narrowed := true }
def CpuCallsUptoSaid : Prop := cpuCallsUptoRow.holds Tryz.pinned (OpenSpec.upto cpuCallsSpec)

/-- 'transputerlaw28.CpuDouble', WHERE WHAT IT READS IS OF BULK AT MOST 1048576: true; the input reads as it did. -/
def cpuDoubleUptoRow : OpenClaim := { program := "ytgmjidajikhimaagreat", sum := "6c244047ca29e9e3aa8a99b50c310b2dad58559bb93796bfd632cf6f2c1802f9", func := "transputer/transputerlaw28.CpuDouble", spec := "cpuDouble", unfollowed := true, recurses := true, named := ["math/bits.overflowError"], apart := false, narrowed := true }
def CpuDoubleUptoSaid : Prop := cpuDoubleUptoRow.holds Tryz.pinned (OpenSpec.upto cpuDoubleSpec)

/-- 'transputerlaw28.CpuLoop', WHERE WHAT IT READS IS OF BULK AT MOST 1048576: true; the input reads as it did. -/
def cpuLoopUptoRow : OpenClaim := { program := "ytgmjidajikhimaagreat", sum := "6c244047ca29e9e3aa8a99b50c310b2dad58559bb93796bfd632cf6f2c1802f9", func := "transputer/transputerlaw28.CpuLoop", spec := "cpuLoop", unfollowed := true, recurses := true, named := ["math/bits.overflowError"], apart := false, narrowed := true }
def CpuLoopUptoSaid : Prop := cpuLoopUptoRow.holds Tryz.pinned (OpenSpec.upto cpuLoopSpec)

/-- 'transputerlaw28.CpuKnown', WHERE WHAT IT READS IS OF BULK AT MOST 1048576: true; the input reads as it did. -/
def cpuKnownUptoRow : OpenClaim := { program := "ytgmjidajikhimaagreat", sum := "6c244047ca29e9e3aa8a99b50c310b2dad58559bb93796bfd632cf6f2c1802f9", func := "transputer/transputerlaw28.CpuKnown", spec := "cpuKnown", unfollowed := true, recurses := true, named := ["math/bits.overflowError"], apart := false, narrowed := true }
def CpuKnownUptoSaid : Prop := cpuKnownUptoRow.holds Tryz.pinned (OpenSpec.upto cpuKnownSpec)

end Rows
end Go.Proofs.YtgmjidajikhimaaGreat
