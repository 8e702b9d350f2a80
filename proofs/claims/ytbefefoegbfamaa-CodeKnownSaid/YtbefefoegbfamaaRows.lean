/-
  No cell of these rows narrows 'for every input' (looked for: loops, veiled, ifaces, maps, wideKeys, modest, calm, conditions, laid).
  DERIVED. THE GIVEN ROWS OF THIS SEAT. 8 by the template 'for every input the law returns true; each argument reads behind the call as it read before'; 0 by the template 'total and deterministic' (their statements: YtbefefoegbfamaaTotals.lean).
  GIVEN WITH THE SEED: the statements are not yours to turn. If you find one false, say at which input.
  Laid BY PROGRAM, IN A SANDBOX (cutbox-rows.mjs): the forced cells as the released guide's own fill.sh prints them over the translation 34f60aaa0c2eba4d… (all of the seat's roots in one cut). By AI agents, Wed Nov 11 2026. No macro, syntax, notation, axiom, sorry.
-/
import Derived.Test.YtbefefoegbfamaaChecked
import GoSem.Claim
import GoSem.ClaimJoined
import GoSem.ClaimMapViews
import Derived.JoinedTies
import Derived.KernelRfl
namespace Go.Proofs.Ytbefefoegbfamaa
/- THE CELL 'sum', in the pinned program and in every row, IS THE sha256 OF THE DUMP (.gsa) THAT YtbefefoegbfamaaProg.lean LOADS. Nothing in Lean hashes anything: it is a label: what it is worth is what the hold of that sum in a sandbox is worth. -/
noncomputable def Try.pinned : Pinned := { name := "ytbefefoegbfamaa", sum := "34f60aaa0c2eba4daa4435f249a275d1afc19f4b4e59d912b94607b8b3a9d767", checked := Try.checked }
namespace Rows
def none {H : Type} : Left H := { results := [], args := [] }

/-- 'transputerlaw04.CodeGets': WHATEVER THE INPUT: true; the input reads as it did. -/
def codeGetsSpec : ChangeSpec := { name := "codeGets", fn := fun _ => fun
  | [d1, d2, d3] => { results := [.lit (.bool true)], args := [d1, d2, d3] }
  | _ => none }
def codeGetsRow : OpenClaim := { program := "ytbefefoegbfamaa", sum := "34f60aaa0c2eba4daa4435f249a275d1afc19f4b4e59d912b94607b8b3a9d767", func := "transputer/transputerlaw04.CodeGets", spec := "codeGets", recurses := true, apart := false }
def CodeGetsSaid : Prop := codeGetsRow.holds Try.pinned (OpenSpec.ofChange codeGetsSpec)

/-- ITS FALSE NEIGHBOUR: 'it returns false'. Refute it at one input. -/
def codeGetsWrong : ChangeSpec := { name := "codeGets", fn := fun _ => fun
  | [d1, d2, d3] => { results := [.lit (.bool false)], args := [d1, d2, d3] }
  | _ => none }
def CodeGetsWrongFalsely : Prop := codeGetsRow.holds Try.pinned (OpenSpec.ofChange codeGetsWrong)

/-- 'transputerlaw04.CodeFront': WHATEVER THE INPUT: true; the input reads as it did. -/
def codeFrontSpec : ChangeSpec := { name := "codeFront", fn := fun _ => fun
  | [d1, d2] => { results := [.lit (.bool true)], args := [d1, d2] }
  | _ => none }
def codeFrontRow : OpenClaim := { program := "ytbefefoegbfamaa", sum := "34f60aaa0c2eba4daa4435f249a275d1afc19f4b4e59d912b94607b8b3a9d767", func := "transputer/transputerlaw04.CodeFront", spec := "codeFront", recurses := true, apart := false }
def CodeFrontSaid : Prop := codeFrontRow.holds Try.pinned (OpenSpec.ofChange codeFrontSpec)

/-- ITS FALSE NEIGHBOUR: 'it returns false'. Refute it at one input. -/
def codeFrontWrong : ChangeSpec := { name := "codeFront", fn := fun _ => fun
  | [d1, d2] => { results := [.lit (.bool false)], args := [d1, d2] }
  | _ => none }
def CodeFrontWrongFalsely : Prop := codeFrontRow.holds Try.pinned (OpenSpec.ofChange codeFrontWrong)

/-- 'transputerlaw04.CodeShortest': WHATEVER THE INPUT: true; the input reads as it did. -/
def codeShortestSpec : ChangeSpec := { name := "codeShortest", fn := fun _ => fun
  | [d] => { results := [.lit (.bool true)], args := [d] }
  | _ => none }
def codeShortestRow : OpenClaim := { program := "ytbefefoegbfamaa", sum := "34f60aaa0c2eba4daa4435f249a275d1afc19f4b4e59d912b94607b8b3a9d767", func := "transputer/transputerlaw04.CodeShortest", spec := "codeShortest", recurses := true, apart := false }
def CodeShortestSaid : Prop := codeShortestRow.holds Try.pinned (OpenSpec.ofChange codeShortestSpec)

/-- ITS FALSE NEIGHBOUR: 'it returns false'. Refute it at one input. -/
def codeShortestWrong : ChangeSpec := { name := "codeShortest", fn := fun _ => fun
  | [d] => { results := [.lit (.bool false)], args := [d] }
  | _ => none }
def CodeShortestWrongFalsely : Prop := codeShortestRow.holds Try.pinned (OpenSpec.ofChange codeShortestWrong)

/-- 'transputerlaw04.CodePuts': WHATEVER THE INPUT: true; the input reads as it did. -/
def codePutsSpec : ChangeSpec := { name := "codePuts", fn := fun _ => fun
  | [d1, d2] => { results := [.lit (.bool true)], args := [d1, d2] }
  | _ => none }
def codePutsRow : OpenClaim := { program := "ytbefefoegbfamaa", sum := "34f60aaa0c2eba4daa4435f249a275d1afc19f4b4e59d912b94607b8b3a9d767", func := "transputer/transputerlaw04.CodePuts", spec := "codePuts", recurses := true, apart := false }
def CodePutsSaid : Prop := codePutsRow.holds Try.pinned (OpenSpec.ofChange codePutsSpec)

/-- ITS FALSE NEIGHBOUR: 'it returns false'. Refute it at one input. -/
def codePutsWrong : ChangeSpec := { name := "codePuts", fn := fun _ => fun
  | [d1, d2] => { results := [.lit (.bool false)], args := [d1, d2] }
  | _ => none }
def CodePutsWrongFalsely : Prop := codePutsRow.holds Try.pinned (OpenSpec.ofChange codePutsWrong)

/-- 'transputerlaw04.CodePads': WHATEVER THE INPUT: true; the input reads as it did. -/
def codePadsSpec : ChangeSpec := { name := "codePads", fn := fun _ => fun
  | [d1, d2] => { results := [.lit (.bool true)], args := [d1, d2] }
  | _ => none }
def codePadsRow : OpenClaim := { program := "ytbefefoegbfamaa", sum := "34f60aaa0c2eba4daa4435f249a275d1afc19f4b4e59d912b94607b8b3a9d767", func := "transputer/transputerlaw04.CodePads", spec := "codePads", recurses := true, apart := false }
def CodePadsSaid : Prop := codePadsRow.holds Try.pinned (OpenSpec.ofChange codePadsSpec)

/-- ITS FALSE NEIGHBOUR: 'it returns false'. Refute it at one input. -/
def codePadsWrong : ChangeSpec := { name := "codePads", fn := fun _ => fun
  | [d1, d2] => { results := [.lit (.bool false)], args := [d1, d2] }
  | _ => none }
def CodePadsWrongFalsely : Prop := codePadsRow.holds Try.pinned (OpenSpec.ofChange codePadsWrong)

/-- 'transputerlaw04.CodeLists': WHATEVER THE INPUT: true; the input reads as it did. -/
def codeListsSpec : ChangeSpec := { name := "codeLists", fn := fun _ => fun
  | [d1, d2] => { results := [.lit (.bool true)], args := [d1, d2] }
  | _ => none }
def codeListsRow : OpenClaim := { program := "ytbefefoegbfamaa", sum := "34f60aaa0c2eba4daa4435f249a275d1afc19f4b4e59d912b94607b8b3a9d767", func := "transputer/transputerlaw04.CodeLists", spec := "codeLists", unfollowed := true, recurses := true, apart := false }
def CodeListsSaid : Prop := codeListsRow.holds Try.pinned (OpenSpec.ofChange codeListsSpec)

/-- ITS FALSE NEIGHBOUR: 'it returns false'. Refute it at one input. -/
def codeListsWrong : ChangeSpec := { name := "codeLists", fn := fun _ => fun
  | [d1, d2] => { results := [.lit (.bool false)], args := [d1, d2] }
  | _ => none }
def CodeListsWrongFalsely : Prop := codeListsRow.holds Try.pinned (OpenSpec.ofChange codeListsWrong)

/-- 'transputerlaw04.CodeBack': WHATEVER THE INPUT: true; the input reads as it did. -/
def codeBackSpec : ChangeSpec := { name := "codeBack", fn := fun _ => fun
  | [d] => { results := [.lit (.bool true)], args := [d] }
  | _ => none }
def codeBackRow : OpenClaim := { program := "ytbefefoegbfamaa", sum := "34f60aaa0c2eba4daa4435f249a275d1afc19f4b4e59d912b94607b8b3a9d767", func := "transputer/transputerlaw04.CodeBack", spec := "codeBack", unfollowed := true, recurses := true, apart := false }
def CodeBackSaid : Prop := codeBackRow.holds Try.pinned (OpenSpec.ofChange codeBackSpec)

/-- ITS FALSE NEIGHBOUR: 'it returns false'. Refute it at one input. -/
def codeBackWrong : ChangeSpec := { name := "codeBack", fn := fun _ => fun
  | [d] => { results := [.lit (.bool false)], args := [d] }
  | _ => none }
def CodeBackWrongFalsely : Prop := codeBackRow.holds Try.pinned (OpenSpec.ofChange codeBackWrong)

/-- 'transputerlaw04.CodeKnown': WHATEVER THE INPUT: true; the input reads as it did. -/
def codeKnownSpec : ChangeSpec := { name := "codeKnown", fn := fun _ => fun
  | [] => { results := [.lit (.bool true)], args := [] }
  | _ => none }
def codeKnownRow : OpenClaim := { program := "ytbefefoegbfamaa", sum := "34f60aaa0c2eba4daa4435f249a275d1afc19f4b4e59d912b94607b8b3a9d767", func := "transputer/transputerlaw04.CodeKnown", spec := "codeKnown", unfollowed := true, recurses := true, apart := false }
def CodeKnownSaid : Prop := codeKnownRow.holds Try.pinned (OpenSpec.ofChange codeKnownSpec)

/-- ITS FALSE NEIGHBOUR: 'it returns false'. Refute it at one input. -/
def codeKnownWrong : ChangeSpec := { name := "codeKnown", fn := fun _ => fun
  | [] => { results := [.lit (.bool false)], args := [] }
  | _ => none }
def CodeKnownWrongFalsely : Prop := codeKnownRow.holds Try.pinned (OpenSpec.ofChange codeKnownWrong)

/- THE SECOND FORM. 'bulk': how many values and letters a reading holds, each counted each time it is reached (what is shared counts as often as it is met; a slice's spare places count too). A statement '..UptoSaid' is the law's where the arguments, and the package variables that the reading takes, are together of bulk at most 1048576: NARROWER than '..Said'. Prove '..Said' where nothing that the law and all that it calls make is longer than what came in: it says more and counts as full. Else prove '..UptoSaid'. A law counts once. -/
mutual
def uptoBulk {H : Type} : DataW H → Nat
  | .lit (.string bytes) => bytes.length + 1
  | .lit _ => 1
  | .nil => 1
  | .ptr d => uptoBulk d + 1
  | .slice elems spare => uptoBulkAll elems + uptoBulkAll spare + 1
  | .agg parts => uptoBulkAll parts + 1
  | .iface _ d => uptoBulk d + 1
  | .map entries => uptoBulkEntries entries + 1
  | .held _ => 1
def uptoBulkAll {H : Type} : List (DataW H) → Nat
  | [] => 0
  | d :: r => uptoBulk d + uptoBulkAll r
def uptoBulkEntries {H : Type} : List (Lit × DataW H) → Nat
  | [] => 0
  | x :: r => uptoBulkEntry x + uptoBulkEntries r
def uptoBulkEntry {H : Type} : Lit × DataW H → Nat
  | (.string bytes, d) => bytes.length + uptoBulk d + 1
  | (_, d) => uptoBulk d + 1
 end
def uptoSmall : (H : Type) → List (DataW H) → Bool := fun _ ds => decide (uptoBulkAll ds ≤ 1048576)
def OpenSpec.upto (s : _root_.Go.ChangeSpec) : _root_.Go.OpenSpec := { _root_.Go.OpenSpec.ofChange s with cond := some uptoSmall }

/-- 'transputerlaw04.CodeGets', WHERE WHAT IT READS IS OF BULK AT MOST 1048576: true; the input reads as it did. -/
def codeGetsUptoRow : OpenClaim := { program := "ytbefefoegbfamaa", sum := "34f60aaa0c2eba4daa4435f249a275d1afc19f4b4e59d912b94607b8b3a9d767", func := "transputer/transputerlaw04.CodeGets", spec := "codeGets", recurses := true, apart := false, narrowed := true }
def CodeGetsUptoSaid : Prop := codeGetsUptoRow.holds Try.pinned (OpenSpec.upto codeGetsSpec)

/-- 'transputerlaw04.CodeFront', WHERE WHAT IT READS IS OF BULK AT MOST 1048576: true; the input reads as it did. -/
def codeFrontUptoRow : OpenClaim := { program := "ytbefefoegbfamaa", sum := "34f60aaa0c2eba4daa4435f249a275d1afc19f4b4e59d912b94607b8b3a9d767", func := "transputer/transputerlaw04.CodeFront", spec := "codeFront", recurses := true, apart := false, narrowed := true }
def CodeFrontUptoSaid : Prop := codeFrontUptoRow.holds Try.pinned (OpenSpec.upto codeFrontSpec)

/-- 'transputerlaw04.CodeShortest', WHERE WHAT IT READS IS OF BULK AT MOST 1048576: true; the input reads as it did. -/
def codeShortestUptoRow : OpenClaim := { program := "ytbefefoegbfamaa", sum := "34f60aaa0c2eba4daa4435f249a275d1afc19f4b4e59d912b94607b8b3a9d767", func := "transputer/transputerlaw04.CodeShortest", spec := "codeShortest", recurses := true, apart := false, narrowed := true }
def CodeShortestUptoSaid : Prop := codeShortestUptoRow.holds Try.pinned (OpenSpec.upto codeShortestSpec)

/-- 'transputerlaw04.CodePuts', WHERE WHAT IT READS IS OF BULK AT MOST 1048576: true; the input reads as it did. -/
def codePutsUptoRow : OpenClaim := { program := "ytbefefoegbfamaa", sum := "34f60aaa0c2eba4daa4435f249a275d1afc19f4b4e59d912b94607b8b3a9d767", func := "transputer/transputerlaw04.CodePuts", spec := "codePuts", recurses := true, apart := false, narrowed := true }
def CodePutsUptoSaid : Prop := codePutsUptoRow.holds Try.pinned (OpenSpec.upto codePutsSpec)

/-- 'transputerlaw04.CodePads', WHERE WHAT IT READS IS OF BULK AT MOST 1048576: true; the input reads as it did. -/
def codePadsUptoRow : OpenClaim := { program := "ytbefefoegbfamaa", sum := "34f60aaa0c2eba4daa4435f249a275d1afc19f4b4e59d912b94607b8b3a9d767", func := "transputer/transputerlaw04.CodePads", spec := "codePads", recurses := true, apart := false, narrowed := true }
def CodePadsUptoSaid : Prop := codePadsUptoRow.holds Try.pinned (OpenSpec.upto codePadsSpec)

/-- 'transputerlaw04.CodeLists', WHERE WHAT IT READS IS OF BULK AT MOST 1048576: true; the input reads as it did. -/
def codeListsUptoRow : OpenClaim := { program := "ytbefefoegbfamaa", sum := "34f60aaa0c2eba4daa4435f249a275d1afc19f4b4e59d912b94607b8b3a9d767", func := "transputer/transputerlaw04.CodeLists", spec := "codeLists", unfollowed := true, recurses := true, apart := false, narrowed := true }
def CodeListsUptoSaid : Prop := codeListsUptoRow.holds Try.pinned (OpenSpec.upto codeListsSpec)

/-- 'transputerlaw04.CodeBack', WHERE WHAT IT READS IS OF BULK AT MOST 1048576: true; the input reads as it did. -/
def codeBackUptoRow : OpenClaim := { program := "ytbefefoegbfamaa", sum := "34f60aaa0c2eba4daa4435f249a275d1afc19f4b4e59d912b94607b8b3a9d767", func := "transputer/transputerlaw04.CodeBack", spec := "codeBack", unfollowed := true, recurses := true, apart := false, narrowed := true }
def CodeBackUptoSaid : Prop := codeBackUptoRow.holds Try.pinned (OpenSpec.upto codeBackSpec)

/-- 'transputerlaw04.CodeKnown', WHERE WHAT IT READS IS OF BULK AT MOST 1048576: true; the input reads as it did. -/
def codeKnownUptoRow : OpenClaim := { program := "ytbefefoegbfamaa", sum := "34f60aaa0c2eba4daa4435f249a275d1afc19f4b4e59d912b94607b8b3a9d767", func := "transputer/transputerlaw04.CodeKnown", spec := "codeKnown", unfollowed := true, recurses := true, apart := false, narrowed := true }
def CodeKnownUptoSaid : Prop := codeKnownUptoRow.holds Try.pinned (OpenSpec.upto codeKnownSpec)

end Rows
end Go.Proofs.Ytbefefoegbfamaa
