/-
  No cell of these rows narrows 'for every input' (looked for: loops, veiled, ifaces, maps, wideKeys, modest, calm, conditions, laid).
  DERIVED. THE GIVEN ROWS OF THIS SEAT. 5 by the template 'for every input the law returns true; each argument reads behind the call as it read before'; 0 by the template 'total and deterministic' (their statements: YtdmfegcenmlkoaaTotals.lean).
  GIVEN WITH THE SEED: the statements are not yours to turn. If you find one false, say at which input.
  Laid BY PROGRAM, IN A SANDBOX (cutbox-rows.mjs): the forced cells as the released guide's own fill.sh prints them over the translation 9b85da402ec2c177… (all of the seat's roots in one cut). By AI agents, Wed Nov 11 2026. No macro, syntax, notation, axiom, sorry.
-/
import Derived.Test.YtdmfegcenmlkoaaChecked
import GoSem.Claim
import GoSem.ClaimJoined
import GoSem.ClaimMapViews
import Derived.JoinedTies
import Derived.KernelRfl
namespace Go.Proofs.Ytdmfegcenmlkoaa
/- THE CELL 'sum', in the pinned program and in every row, IS THE sha256 OF THE DUMP (.gsa) THAT YtdmfegcenmlkoaaProg.lean LOADS. Nothing in Lean hashes anything: it is a label: what it is worth is what the hold of that sum in a sandbox is worth. -/
noncomputable def Try.pinned : Pinned := { name := "ytdmfegcenmlkoaa", sum := "9b85da402ec2c1779c4fa492bb08dd3d6785d05ca2c7cc7cca5e8fcdd07862eb", checked := Try.checked }
namespace Rows
def none {H : Type} : Left H := { results := [], args := [] }

/-- 'transputerlaw31.AltMine': WHATEVER THE INPUT: true; the input reads as it did. -/
def altMineSpec : ChangeSpec := { name := "altMine", fn := fun _ => fun
  | [d1, d2] => { results := [.lit (.bool true)], args := [d1, d2] }
  | _ => none }
def altMineRow : OpenClaim := { program := "ytdmfegcenmlkoaa", sum := "9b85da402ec2c1779c4fa492bb08dd3d6785d05ca2c7cc7cca5e8fcdd07862eb", func := "transputer/transputerlaw31.AltMine", spec := "altMine", unfollowed := true, recurses := true, apart := false }
def AltMineSaid : Prop := altMineRow.holds Try.pinned (OpenSpec.ofChange altMineSpec)

/-- ITS FALSE NEIGHBOUR: 'it returns false'. Refute it at one input. -/
def altMineWrong : ChangeSpec := { name := "altMine", fn := fun _ => fun
  | [d1, d2] => { results := [.lit (.bool false)], args := [d1, d2] }
  | _ => none }
def AltMineWrongFalsely : Prop := altMineRow.holds Try.pinned (OpenSpec.ofChange altMineWrong)

/-- 'transputerlaw31.AltSelects': WHATEVER THE INPUT: true; the input reads as it did. -/
def altSelectsSpec : ChangeSpec := { name := "altSelects", fn := fun _ => fun
  | [d1, d2] => { results := [.lit (.bool true)], args := [d1, d2] }
  | _ => none }
def altSelectsRow : OpenClaim := { program := "ytdmfegcenmlkoaa", sum := "9b85da402ec2c1779c4fa492bb08dd3d6785d05ca2c7cc7cca5e8fcdd07862eb", func := "transputer/transputerlaw31.AltSelects", spec := "altSelects", unfollowed := true, recurses := true, apart := false }
def AltSelectsSaid : Prop := altSelectsRow.holds Try.pinned (OpenSpec.ofChange altSelectsSpec)

/-- ITS FALSE NEIGHBOUR: 'it returns false'. Refute it at one input. -/
def altSelectsWrong : ChangeSpec := { name := "altSelects", fn := fun _ => fun
  | [d1, d2] => { results := [.lit (.bool false)], args := [d1, d2] }
  | _ => none }
def AltSelectsWrongFalsely : Prop := altSelectsRow.holds Try.pinned (OpenSpec.ofChange altSelectsWrong)

/-- 'transputerlaw31.AltKnown': WHATEVER THE INPUT: true; the input reads as it did. -/
def altKnownSpec : ChangeSpec := { name := "altKnown", fn := fun _ => fun
  | [] => { results := [.lit (.bool true)], args := [] }
  | _ => none }
def altKnownRow : OpenClaim := { program := "ytdmfegcenmlkoaa", sum := "9b85da402ec2c1779c4fa492bb08dd3d6785d05ca2c7cc7cca5e8fcdd07862eb", func := "transputer/transputerlaw31.AltKnown", spec := "altKnown", unfollowed := true, recurses := true, apart := false }
def AltKnownSaid : Prop := altKnownRow.holds Try.pinned (OpenSpec.ofChange altKnownSpec)

/-- ITS FALSE NEIGHBOUR: 'it returns false'. Refute it at one input. -/
def altKnownWrong : ChangeSpec := { name := "altKnown", fn := fun _ => fun
  | [] => { results := [.lit (.bool false)], args := [] }
  | _ => none }
def AltKnownWrongFalsely : Prop := altKnownRow.holds Try.pinned (OpenSpec.ofChange altKnownWrong)

/-- 'transputerlaw31.AltExecs': WHATEVER THE INPUT: true; the input reads as it did. -/
def altExecsSpec : ChangeSpec := { name := "altExecs", fn := fun _ => fun
  | [d1, d2, d3, d4, d5] => { results := [.lit (.bool true)], args := [d1, d2, d3, d4, d5] }
  | _ => none }
def altExecsRow : OpenClaim := { program := "ytdmfegcenmlkoaa", sum := "9b85da402ec2c1779c4fa492bb08dd3d6785d05ca2c7cc7cca5e8fcdd07862eb", func := "transputer/transputerlaw31.AltExecs", spec := "altExecs", unfollowed := true, recurses := true, apart := false }
def AltExecsSaid : Prop := altExecsRow.holds Try.pinned (OpenSpec.ofChange altExecsSpec)

/-- ITS FALSE NEIGHBOUR: 'it returns false'. Refute it at one input. -/
def altExecsWrong : ChangeSpec := { name := "altExecs", fn := fun _ => fun
  | [d1, d2, d3, d4, d5] => { results := [.lit (.bool false)], args := [d1, d2, d3, d4, d5] }
  | _ => none }
def AltExecsWrongFalsely : Prop := altExecsRow.holds Try.pinned (OpenSpec.ofChange altExecsWrong)

/-- 'transputerlaw31.AltFalse': WHATEVER THE INPUT: true; the input reads as it did. -/
def altFalseSpec : ChangeSpec := { name := "altFalse", fn := fun _ => fun
  | [d1, d2, d3, d4] => { results := [.lit (.bool true)], args := [d1, d2, d3, d4] }
  | _ => none }
def altFalseRow : OpenClaim := { program := "ytdmfegcenmlkoaa", sum := "9b85da402ec2c1779c4fa492bb08dd3d6785d05ca2c7cc7cca5e8fcdd07862eb", func := "transputer/transputerlaw31.AltFalse", spec := "altFalse", unfollowed := true, recurses := true, apart := false }
def AltFalseSaid : Prop := altFalseRow.holds Try.pinned (OpenSpec.ofChange altFalseSpec)

/-- ITS FALSE NEIGHBOUR: 'it returns false'. Refute it at one input. -/
def altFalseWrong : ChangeSpec := { name := "altFalse", fn := fun _ => fun
  | [d1, d2, d3, d4] => { results := [.lit (.bool false)], args := [d1, d2, d3, d4] }
  | _ => none }
def AltFalseWrongFalsely : Prop := altFalseRow.holds Try.pinned (OpenSpec.ofChange altFalseWrong)

/- THE SECOND FORM. 'bulk': how many values and letters a reading holds, each counted each time it is reached (what is shared counts as often as it is met; a slice's spare places count too). A statement '..UptoSaid' is the law's where the arguments, and the package variables that the reading takes, are together of bulk at most 1048576: NARROWER than '..Said'. Prove '..Said' where nothing that the law and all that it calls make is longer than what came in: it says more and counts as full. Else prove '..UptoSaid'. A law counts once. -/
mutual
def uptoBulk {H : Type} : DataW H → Nat
  | .lit (.string bytes) => bytes.length + 1
  | .lit _ => 1
  | .nil => 1
  | .ptr d => uptoBulk d + 1
  | .slice elems spare => uptoBulkAll elems + uptoBulkAll spare + 1
  | .agg parts => uptoBulkAll parts + 1
  | .iface _ d => uptoBulk d + 1
  | .map entries => uptoBulkEntries entries + 1
  | .held _ => 1
def uptoBulkAll {H : Type} : List (DataW H) → Nat
  | [] => 0
  | d :: r => uptoBulk d + uptoBulkAll r
def uptoBulkEntries {H : Type} : List (Lit × DataW H) → Nat
  | [] => 0
  | x :: r => uptoBulkEntry x + uptoBulkEntries r
def uptoBulkEntry {H : Type} : Lit × DataW H → Nat
  | (.string bytes, d) => bytes.length + uptoBulk d + 1
  | (_, d) => uptoBulk d + 1
 end
def uptoSmall : (H : Type) → List (DataW H) → Bool := fun _ ds => decide (uptoBulkAll ds ≤ 1048576)
def OpenSpec.upto (s : _root_.Go.ChangeSpec) : _root_.Go.OpenSpec := { _root_.Go.OpenSpec.ofChange s with cond := some uptoSmall }

/-- 'transputerlaw31.AltMine', WHERE WHAT IT READS IS OF BULK AT MOST 1048576: true; the input reads as it did. -/
def altMineUptoRow : OpenClaim := { program := "ytdmfegcenmlkoaa", sum := "9b85da402ec2c1779c4fa492bb08dd3d6785d05ca2c7cc7cca5e8fcdd07862eb", func := "transputer/transputerlaw31.AltMine", spec := "altMine", unfollowed := true, recurses := true, apart := false, narrowed := true }
def AltMineUptoSaid : Prop := altMineUptoRow.holds Try.pinned (OpenSpec.upto altMineSpec)

/-- 'transputerlaw31.AltSelects', WHERE WHAT IT READS IS OF BULK AT MOST 1048576: true; the input reads as it did. -/
def altSelectsUptoRow : OpenClaim := { program := "ytdmfegcenmlkoaa", sum := "9b85da402ec2c1779c4fa492bb08dd3d6785d05ca2c7cc7cca5e8fcdd07862eb", func := "transputer/transputerlaw31.AltSelects", spec := "altSelects", unfollowed := true, recurses := true, apart := false, narrowed := true }
def AltSelectsUptoSaid : Prop := altSelectsUptoRow.holds Try.pinned (OpenSpec.upto altSelectsSpec)

/-- 'transputerlaw31.AltKnown', WHERE WHAT IT READS IS OF BULK AT MOST 1048576: true; the input reads as it did. -/
def altKnownUptoRow : OpenClaim := { program := "ytdmfegcenmlkoaa", sum := "9b85da402ec2c1779c4fa492bb08dd3d6785d05ca2c7cc7cca5e8fcdd07862eb", func := "transputer/transputerlaw31.AltKnown", spec := "altKnown", unfollowed := true, recurses := true, apart := false, narrowed := true }
def AltKnownUptoSaid : Prop := altKnownUptoRow.holds Try.pinned (OpenSpec.upto altKnownSpec)

/-- 'transputerlaw31.AltExecs', WHERE WHAT IT READS IS OF BULK AT MOST 1048576: true; the input reads as it did. -/
def altExecsUptoRow : OpenClaim := { program := "ytdmfegcenmlkoaa", sum := "9b85da402ec2c1779c4fa492bb08dd3d6785d05ca2c7cc7cca5e8fcdd07862eb", func := "transputer/transputerlaw31.AltExecs", spec := "altExecs", unfollowed := true, recurses := true, apart := false, narrowed := true }
def AltExecsUptoSaid : Prop := altExecsUptoRow.holds Try.pinned (OpenSpec.upto altExecsSpec)

/-- 'transputerlaw31.AltFalse', WHERE WHAT IT READS IS OF BULK AT MOST 1048576: true; the input reads as it did. -/
def altFalseUptoRow : OpenClaim := { program := "ytdmfegcenmlkoaa", sum := "9b85da402ec2c1779c4fa492bb08dd3d6785d05ca2c7cc7cca5e8fcdd07862eb", func := "transputer/transputerlaw31.AltFalse", spec := "altFalse", unfollowed := true, recurses := true, apart := false, narrowed := true }
def AltFalseUptoSaid : Prop := altFalseUptoRow.holds Try.pinned (OpenSpec.upto altFalseSpec)

end Rows
end Go.Proofs.Ytdmfegcenmlkoaa
