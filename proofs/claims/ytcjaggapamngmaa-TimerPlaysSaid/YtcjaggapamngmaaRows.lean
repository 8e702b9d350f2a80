/-
  No cell of these rows narrows 'for every input' (looked for: loops, veiled, ifaces, maps, wideKeys, modest, calm, conditions, laid).
  DERIVED. THE GIVEN ROWS OF THIS SEAT. 5 by the template 'for every input the law returns true; each argument reads behind the call as it read before'; 0 by the template 'total and deterministic' (their statements: YtcjaggapamngmaaTotals.lean).
  GIVEN WITH THE SEED: the statements are not yours to turn. If you find one false, say at which input.
  Laid BY PROGRAM, IN A SANDBOX (cutbox-rows.mjs): the forced cells as the released guide's own fill.sh prints them over the translation f3b467942c3c9dc3… (all of the seat's roots in one cut). By AI agents, Wed Nov 11 2026. No macro, syntax, notation, axiom, sorry.
-/
import Derived.Test.YtcjaggapamngmaaChecked
import GoSem.Claim
import GoSem.ClaimJoined
import GoSem.ClaimMapViews
import Derived.JoinedTies
import Derived.KernelRfl
namespace Go.Proofs.Ytcjaggapamngmaa
/- THE CELL 'sum', in the pinned program and in every row, IS THE sha256 OF THE DUMP (.gsa) THAT YtcjaggapamngmaaProg.lean LOADS. Nothing in Lean hashes anything: it is a label: what it is worth is what the hold of that sum in a sandbox is worth. -/
noncomputable def Try.pinned : Pinned := { name := "ytcjaggapamngmaa", sum := "f3b467942c3c9dc3e74ca820628ed479f1d043125bcd0b5041a363bd8b007000", checked := Try.checked }
namespace Rows
def none {H : Type} : Left H := { results := [], args := [] }

/-- 'transputerlaw32.TimerNone': WHATEVER THE INPUT: true; the input reads as it did. -/
def timerNoneSpec : ChangeSpec := { name := "timerNone", fn := fun _ => fun
  | [d1, d2] => { results := [.lit (.bool true)], args := [d1, d2] }
  | _ => none }
def timerNoneRow : OpenClaim := { program := "ytcjaggapamngmaa", sum := "f3b467942c3c9dc3e74ca820628ed479f1d043125bcd0b5041a363bd8b007000", func := "transputer/transputerlaw32.TimerNone", spec := "timerNone", unfollowed := true, recurses := true, apart := false }
def TimerNoneSaid : Prop := timerNoneRow.holds Try.pinned (OpenSpec.ofChange timerNoneSpec)

/-- ITS FALSE NEIGHBOUR: 'it returns false'. Refute it at one input. -/
def timerNoneWrong : ChangeSpec := { name := "timerNone", fn := fun _ => fun
  | [d1, d2] => { results := [.lit (.bool false)], args := [d1, d2] }
  | _ => none }
def TimerNoneWrongFalsely : Prop := timerNoneRow.holds Try.pinned (OpenSpec.ofChange timerNoneWrong)

/-- 'transputerlaw32.TimerSorted': WHATEVER THE INPUT: true; the input reads as it did. -/
def timerSortedSpec : ChangeSpec := { name := "timerSorted", fn := fun _ => fun
  | [d1, d2, d3, d4] => { results := [.lit (.bool true)], args := [d1, d2, d3, d4] }
  | _ => none }
def timerSortedRow : OpenClaim := { program := "ytcjaggapamngmaa", sum := "f3b467942c3c9dc3e74ca820628ed479f1d043125bcd0b5041a363bd8b007000", func := "transputer/transputerlaw32.TimerSorted", spec := "timerSorted", unfollowed := true, recurses := true, apart := false }
def TimerSortedSaid : Prop := timerSortedRow.holds Try.pinned (OpenSpec.ofChange timerSortedSpec)

/-- ITS FALSE NEIGHBOUR: 'it returns false'. Refute it at one input. -/
def timerSortedWrong : ChangeSpec := { name := "timerSorted", fn := fun _ => fun
  | [d1, d2, d3, d4] => { results := [.lit (.bool false)], args := [d1, d2, d3, d4] }
  | _ => none }
def TimerSortedWrongFalsely : Prop := timerSortedRow.holds Try.pinned (OpenSpec.ofChange timerSortedWrong)

/-- 'transputerlaw32.TimerPlays': WHATEVER THE INPUT: true; the input reads as it did. -/
def timerPlaysSpec : ChangeSpec := { name := "timerPlays", fn := fun _ => fun
  | [d1, d2, d3] => { results := [.lit (.bool true)], args := [d1, d2, d3] }
  | _ => none }
def timerPlaysRow : OpenClaim := { program := "ytcjaggapamngmaa", sum := "f3b467942c3c9dc3e74ca820628ed479f1d043125bcd0b5041a363bd8b007000", func := "transputer/transputerlaw32.TimerPlays", spec := "timerPlays", unfollowed := true, recurses := true, apart := false }
def TimerPlaysSaid : Prop := timerPlaysRow.holds Try.pinned (OpenSpec.ofChange timerPlaysSpec)

/-- ITS FALSE NEIGHBOUR: 'it returns false'. Refute it at one input. -/
def timerPlaysWrong : ChangeSpec := { name := "timerPlays", fn := fun _ => fun
  | [d1, d2, d3] => { results := [.lit (.bool false)], args := [d1, d2, d3] }
  | _ => none }
def TimerPlaysWrongFalsely : Prop := timerPlaysRow.holds Try.pinned (OpenSpec.ofChange timerPlaysWrong)

/-- 'transputerlaw32.TimerWakes': WHATEVER THE INPUT: true; the input reads as it did. -/
def timerWakesSpec : ChangeSpec := { name := "timerWakes", fn := fun _ => fun
  | [d1, d2] => { results := [.lit (.bool true)], args := [d1, d2] }
  | _ => none }
def timerWakesRow : OpenClaim := { program := "ytcjaggapamngmaa", sum := "f3b467942c3c9dc3e74ca820628ed479f1d043125bcd0b5041a363bd8b007000", func := "transputer/transputerlaw32.TimerWakes", spec := "timerWakes", unfollowed := true, recurses := true, apart := false }
def TimerWakesSaid : Prop := timerWakesRow.holds Try.pinned (OpenSpec.ofChange timerWakesSpec)

/-- ITS FALSE NEIGHBOUR: 'it returns false'. Refute it at one input. -/
def timerWakesWrong : ChangeSpec := { name := "timerWakes", fn := fun _ => fun
  | [d1, d2] => { results := [.lit (.bool false)], args := [d1, d2] }
  | _ => none }
def TimerWakesWrongFalsely : Prop := timerWakesRow.holds Try.pinned (OpenSpec.ofChange timerWakesWrong)

/-- 'transputerlaw32.TimerChooses': WHATEVER THE INPUT: true; the input reads as it did. -/
def timerChoosesSpec : ChangeSpec := { name := "timerChooses", fn := fun _ => fun
  | [d1, d2, d3] => { results := [.lit (.bool true)], args := [d1, d2, d3] }
  | _ => none }
def timerChoosesRow : OpenClaim := { program := "ytcjaggapamngmaa", sum := "f3b467942c3c9dc3e74ca820628ed479f1d043125bcd0b5041a363bd8b007000", func := "transputer/transputerlaw32.TimerChooses", spec := "timerChooses", unfollowed := true, recurses := true, apart := false }
def TimerChoosesSaid : Prop := timerChoosesRow.holds Try.pinned (OpenSpec.ofChange timerChoosesSpec)

/-- ITS FALSE NEIGHBOUR: 'it returns false'. Refute it at one input. -/
def timerChoosesWrong : ChangeSpec := { name := "timerChooses", fn := fun _ => fun
  | [d1, d2, d3] => { results := [.lit (.bool false)], args := [d1, d2, d3] }
  | _ => none }
def TimerChoosesWrongFalsely : Prop := timerChoosesRow.holds Try.pinned (OpenSpec.ofChange timerChoosesWrong)

/- THE SECOND FORM. 'bulk': how many values and letters a reading holds, each counted each time it is reached (what is shared counts as often as it is met; a slice's spare places count too). A statement '..UptoSaid' is the law's where the arguments, and the package variables that the reading takes, are together of bulk at most 1048576: NARROWER than '..Said'. Prove '..Said' where nothing that the law and all that it calls make is longer than what came in: it says more and counts as full. Else prove '..UptoSaid'. A law counts once. -/
mutual
def uptoBulk {H : Type} : DataW H → Nat
  | .lit (.string bytes) => bytes.length + 1
  | .lit _ => 1
  | .nil => 1
  | .ptr d => uptoBulk d + 1
  | .slice elems spare => uptoBulkAll elems + uptoBulkAll spare + 1
  | .agg parts => uptoBulkAll parts + 1
  | .iface _ d => uptoBulk d + 1
  | .map entries => uptoBulkEntries entries + 1
  | .held _ => 1
def uptoBulkAll {H : Type} : List (DataW H) → Nat
  | [] => 0
  | d :: r => uptoBulk d + uptoBulkAll r
def uptoBulkEntries {H : Type} : List (Lit × DataW H) → Nat
  | [] => 0
  | x :: r => uptoBulkEntry x + uptoBulkEntries r
def uptoBulkEntry {H : Type} : Lit × DataW H → Nat
  | (.string bytes, d) => bytes.length + uptoBulk d + 1
  | (_, d) => uptoBulk d + 1
 end
def uptoSmall : (H : Type) → List (DataW H) → Bool := fun _ ds => decide (uptoBulkAll ds ≤ 1048576)
def OpenSpec.upto (s : _root_.Go.ChangeSpec) : _root_.Go.OpenSpec := { _root_.Go.OpenSpec.ofChange s with cond := some uptoSmall }

/-- 'transputerlaw32.TimerNone', WHERE WHAT IT READS IS OF BULK AT MOST 1048576: true; the input reads as it did. -/
def timerNoneUptoRow : OpenClaim := { program := "ytcjaggapamngmaa", sum := "f3b467942c3c9dc3e74ca820628ed479f1d043125bcd0b5041a363bd8b007000", func := "transputer/transputerlaw32.TimerNone", spec := "timerNone", unfollowed := true, recurses := true, apart := false, narrowed := true }
def TimerNoneUptoSaid : Prop := timerNoneUptoRow.holds Try.pinned (OpenSpec.upto timerNoneSpec)

/-- 'transputerlaw32.TimerSorted', WHERE WHAT IT READS IS OF BULK AT MOST 1048576: true; the input reads as it did. -/
def timerSortedUptoRow : OpenClaim := { program := "ytcjaggapamngmaa", sum := "f3b467942c3c9dc3e74ca820628ed479f1d043125bcd0b5041a363bd8b007000", func := "transputer/transputerlaw32.TimerSorted", spec := "timerSorted", unfollowed := true, recurses := true, apart := false, narrowed := true }
def TimerSortedUptoSaid : Prop := timerSortedUptoRow.holds Try.pinned (OpenSpec.upto timerSortedSpec)

/-- 'transputerlaw32.TimerPlays', WHERE WHAT IT READS IS OF BULK AT MOST 1048576: true; the input reads as it did. -/
def timerPlaysUptoRow : OpenClaim := { program := "ytcjaggapamngmaa", sum := "f3b467942c3c9dc3e74ca820628ed479f1d043125bcd0b5041a363bd8b007000", func := "transputer/transputerlaw32.TimerPlays", spec := "timerPlays", unfollowed := true, recurses := true, apart := false, narrowed := true }
def TimerPlaysUptoSaid : Prop := timerPlaysUptoRow.holds Try.pinned (OpenSpec.upto timerPlaysSpec)

/-- 'transputerlaw32.TimerWakes', WHERE WHAT IT READS IS OF BULK AT MOST 1048576: true; the input reads as it did. -/
def timerWakesUptoRow : OpenClaim := { program := "ytcjaggapamngmaa", sum := "f3b467942c3c9dc3e74ca820628ed479f1d043125bcd0b5041a363bd8b007000", func := "transputer/transputerlaw32.TimerWakes", spec := "timerWakes", unfollowed := true, recurses := true, apart := false, narrowed := true }
def TimerWakesUptoSaid : Prop := timerWakesUptoRow.holds Try.pinned (OpenSpec.upto timerWakesSpec)

/-- 'transputerlaw32.TimerChooses', WHERE WHAT IT READS IS OF BULK AT MOST 1048576: true; the input reads as it did. -/
def timerChoosesUptoRow : OpenClaim := { program := "ytcjaggapamngmaa", sum := "f3b467942c3c9dc3e74ca820628ed479f1d043125bcd0b5041a363bd8b007000", func := "transputer/transputerlaw32.TimerChooses", spec := "timerChooses", unfollowed := true, recurses := true, apart := false, narrowed := true }
def TimerChoosesUptoSaid : Prop := timerChoosesUptoRow.holds Try.pinned (OpenSpec.upto timerChoosesSpec)

end Rows
end Go.Proofs.Ytcjaggapamngmaa
