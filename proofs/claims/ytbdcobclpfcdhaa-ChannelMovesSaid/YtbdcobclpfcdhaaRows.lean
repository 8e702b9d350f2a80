/-
  No cell of these rows narrows 'for every input' (looked for: loops, veiled, ifaces, maps, wideKeys, modest, calm, conditions, laid).
  DERIVED. THE GIVEN ROWS OF THIS SEAT. 8 by the template 'for every input the law returns true; each argument reads behind the call as it read before'; 0 by the template 'total and deterministic' (their statements: YtbdcobclpfcdhaaTotals.lean).
  GIVEN WITH THE SEED: the statements are not yours to turn. If you find one false, say at which input.
  Laid BY PROGRAM, IN A SANDBOX (cutbox-rows.mjs): the forced cells as the released guide's own fill.sh prints them over the translation e11c7a8e3a33ded2… (all of the seat's roots in one cut). By AI agents, Wed Nov 11 2026. No macro, syntax, notation, axiom, sorry.
-/
import Derived.Test.YtbdcobclpfcdhaaChecked
import GoSem.Claim
import GoSem.ClaimJoined
import GoSem.ClaimMapViews
import Derived.JoinedTies
import Derived.KernelRfl
namespace Go.Proofs.Ytbdcobclpfcdhaa
/- THE CELL 'sum', in the pinned program and in every row, IS THE sha256 OF THE DUMP (.gsa) THAT YtbdcobclpfcdhaaProg.lean LOADS. Nothing in Lean hashes anything: it is a label: what it is worth is what the hold of that sum in a sandbox is worth. -/
noncomputable def Try.pinned : Pinned := { name := "ytbdcobclpfcdhaa", sum := "e11c7a8e3a33ded20e3c64826e3ee04bd817947aee50d49200c1bc7d6c4c6193", checked := Try.checked }
namespace Rows
def none {H : Type} : Left H := { results := [], args := [] }

/-- 'transputerlaw30.ChannelOrder': WHATEVER THE INPUT: true; the input reads as it did. -/
def channelOrderSpec : ChangeSpec := { name := "channelOrder", fn := fun _ => fun
  | [d1, d2] => { results := [.lit (.bool true)], args := [d1, d2] }
  | _ => none }
def channelOrderRow : OpenClaim := { program := "ytbdcobclpfcdhaa", sum := "e11c7a8e3a33ded20e3c64826e3ee04bd817947aee50d49200c1bc7d6c4c6193", func := "transputer/transputerlaw30.ChannelOrder", spec := "channelOrder", unfollowed := true, recurses := true, apart := false }
def ChannelOrderSaid : Prop := channelOrderRow.holds Try.pinned (OpenSpec.ofChange channelOrderSpec)

/-- ITS FALSE NEIGHBOUR: 'it returns false'. Refute it at one input. -/
def channelOrderWrong : ChangeSpec := { name := "channelOrder", fn := fun _ => fun
  | [d1, d2] => { results := [.lit (.bool false)], args := [d1, d2] }
  | _ => none }
def ChannelOrderWrongFalsely : Prop := channelOrderRow.holds Try.pinned (OpenSpec.ofChange channelOrderWrong)

/-- 'transputerlaw30.ChannelChoices': WHATEVER THE INPUT: true; the input reads as it did. -/
def channelChoicesSpec : ChangeSpec := { name := "channelChoices", fn := fun _ => fun
  | [d1, d2, d3] => { results := [.lit (.bool true)], args := [d1, d2, d3] }
  | _ => none }
def channelChoicesRow : OpenClaim := { program := "ytbdcobclpfcdhaa", sum := "e11c7a8e3a33ded20e3c64826e3ee04bd817947aee50d49200c1bc7d6c4c6193", func := "transputer/transputerlaw30.ChannelChoices", spec := "channelChoices", unfollowed := true, recurses := true, apart := false }
def ChannelChoicesSaid : Prop := channelChoicesRow.holds Try.pinned (OpenSpec.ofChange channelChoicesSpec)

/-- ITS FALSE NEIGHBOUR: 'it returns false'. Refute it at one input. -/
def channelChoicesWrong : ChangeSpec := { name := "channelChoices", fn := fun _ => fun
  | [d1, d2, d3] => { results := [.lit (.bool false)], args := [d1, d2, d3] }
  | _ => none }
def ChannelChoicesWrongFalsely : Prop := channelChoicesRow.holds Try.pinned (OpenSpec.ofChange channelChoicesWrong)

/-- 'transputerlaw30.ChannelNothing': WHATEVER THE INPUT: true; the input reads as it did. -/
def channelNothingSpec : ChangeSpec := { name := "channelNothing", fn := fun _ => fun
  | [d1, d2, d3] => { results := [.lit (.bool true)], args := [d1, d2, d3] }
  | _ => none }
def channelNothingRow : OpenClaim := { program := "ytbdcobclpfcdhaa", sum := "e11c7a8e3a33ded20e3c64826e3ee04bd817947aee50d49200c1bc7d6c4c6193", func := "transputer/transputerlaw30.ChannelNothing", spec := "channelNothing", unfollowed := true, recurses := true, apart := false }
def ChannelNothingSaid : Prop := channelNothingRow.holds Try.pinned (OpenSpec.ofChange channelNothingSpec)

/-- ITS FALSE NEIGHBOUR: 'it returns false'. Refute it at one input. -/
def channelNothingWrong : ChangeSpec := { name := "channelNothing", fn := fun _ => fun
  | [d1, d2, d3] => { results := [.lit (.bool false)], args := [d1, d2, d3] }
  | _ => none }
def ChannelNothingWrongFalsely : Prop := channelNothingRow.holds Try.pinned (OpenSpec.ofChange channelNothingWrong)

/-- 'transputerlaw30.ChannelShort': WHATEVER THE INPUT: true; the input reads as it did. -/
def channelShortSpec : ChangeSpec := { name := "channelShort", fn := fun _ => fun
  | [d1, d2] => { results := [.lit (.bool true)], args := [d1, d2] }
  | _ => none }
def channelShortRow : OpenClaim := { program := "ytbdcobclpfcdhaa", sum := "e11c7a8e3a33ded20e3c64826e3ee04bd817947aee50d49200c1bc7d6c4c6193", func := "transputer/transputerlaw30.ChannelShort", spec := "channelShort", unfollowed := true, recurses := true, apart := false }
def ChannelShortSaid : Prop := channelShortRow.holds Try.pinned (OpenSpec.ofChange channelShortSpec)

/-- ITS FALSE NEIGHBOUR: 'it returns false'. Refute it at one input. -/
def channelShortWrong : ChangeSpec := { name := "channelShort", fn := fun _ => fun
  | [d1, d2] => { results := [.lit (.bool false)], args := [d1, d2] }
  | _ => none }
def ChannelShortWrongFalsely : Prop := channelShortRow.holds Try.pinned (OpenSpec.ofChange channelShortWrong)

/-- 'transputerlaw30.ChannelMoves': WHATEVER THE INPUT: true; the input reads as it did. -/
def channelMovesSpec : ChangeSpec := { name := "channelMoves", fn := fun _ => fun
  | [d1, d2, d3, d4, d5] => { results := [.lit (.bool true)], args := [d1, d2, d3, d4, d5] }
  | _ => none }
def channelMovesRow : OpenClaim := { program := "ytbdcobclpfcdhaa", sum := "e11c7a8e3a33ded20e3c64826e3ee04bd817947aee50d49200c1bc7d6c4c6193", func := "transputer/transputerlaw30.ChannelMoves", spec := "channelMoves", unfollowed := true, recurses := true, apart := false }
def ChannelMovesSaid : Prop := channelMovesRow.holds Try.pinned (OpenSpec.ofChange channelMovesSpec)

/-- ITS FALSE NEIGHBOUR: 'it returns false'. Refute it at one input. -/
def channelMovesWrong : ChangeSpec := { name := "channelMoves", fn := fun _ => fun
  | [d1, d2, d3, d4, d5] => { results := [.lit (.bool false)], args := [d1, d2, d3, d4, d5] }
  | _ => none }
def ChannelMovesWrongFalsely : Prop := channelMovesRow.holds Try.pinned (OpenSpec.ofChange channelMovesWrong)

/-- 'transputerlaw30.ChannelExecs': WHATEVER THE INPUT: true; the input reads as it did. -/
def channelExecsSpec : ChangeSpec := { name := "channelExecs", fn := fun _ => fun
  | [d1, d2, d3] => { results := [.lit (.bool true)], args := [d1, d2, d3] }
  | _ => none }
def channelExecsRow : OpenClaim := { program := "ytbdcobclpfcdhaa", sum := "e11c7a8e3a33ded20e3c64826e3ee04bd817947aee50d49200c1bc7d6c4c6193", func := "transputer/transputerlaw30.ChannelExecs", spec := "channelExecs", unfollowed := true, recurses := true, apart := false }
def ChannelExecsSaid : Prop := channelExecsRow.holds Try.pinned (OpenSpec.ofChange channelExecsSpec)

/-- ITS FALSE NEIGHBOUR: 'it returns false'. Refute it at one input. -/
def channelExecsWrong : ChangeSpec := { name := "channelExecs", fn := fun _ => fun
  | [d1, d2, d3] => { results := [.lit (.bool false)], args := [d1, d2, d3] }
  | _ => none }
def ChannelExecsWrongFalsely : Prop := channelExecsRow.holds Try.pinned (OpenSpec.ofChange channelExecsWrong)

/-- 'transputerlaw30.ChannelErrors': WHATEVER THE INPUT: true; the input reads as it did. -/
def channelErrorsSpec : ChangeSpec := { name := "channelErrors", fn := fun _ => fun
  | [d1, d2, d3] => { results := [.lit (.bool true)], args := [d1, d2, d3] }
  | _ => none }
def channelErrorsRow : OpenClaim := { program := "ytbdcobclpfcdhaa", sum := "e11c7a8e3a33ded20e3c64826e3ee04bd817947aee50d49200c1bc7d6c4c6193", func := "transputer/transputerlaw30.ChannelErrors", spec := "channelErrors", unfollowed := true, recurses := true, apart := false }
def ChannelErrorsSaid : Prop := channelErrorsRow.holds Try.pinned (OpenSpec.ofChange channelErrorsSpec)

/-- ITS FALSE NEIGHBOUR: 'it returns false'. Refute it at one input. -/
def channelErrorsWrong : ChangeSpec := { name := "channelErrors", fn := fun _ => fun
  | [d1, d2, d3] => { results := [.lit (.bool false)], args := [d1, d2, d3] }
  | _ => none }
def ChannelErrorsWrongFalsely : Prop := channelErrorsRow.holds Try.pinned (OpenSpec.ofChange channelErrorsWrong)

/-- 'transputerlaw30.ChannelCarries': WHATEVER THE INPUT: true; the input reads as it did. -/
def channelCarriesSpec : ChangeSpec := { name := "channelCarries", fn := fun _ => fun
  | [d1, d2, d3, d4] => { results := [.lit (.bool true)], args := [d1, d2, d3, d4] }
  | _ => none }
def channelCarriesRow : OpenClaim := { program := "ytbdcobclpfcdhaa", sum := "e11c7a8e3a33ded20e3c64826e3ee04bd817947aee50d49200c1bc7d6c4c6193", func := "transputer/transputerlaw30.ChannelCarries", spec := "channelCarries", unfollowed := true, recurses := true, apart := false }
def ChannelCarriesSaid : Prop := channelCarriesRow.holds Try.pinned (OpenSpec.ofChange channelCarriesSpec)

/-- ITS FALSE NEIGHBOUR: 'it returns false'. Refute it at one input. -/
def channelCarriesWrong : ChangeSpec := { name := "channelCarries", fn := fun _ => fun
  | [d1, d2, d3, d4] => { results := [.lit (.bool false)], args := [d1, d2, d3, d4] }
  | _ => none }
def ChannelCarriesWrongFalsely : Prop := channelCarriesRow.holds Try.pinned (OpenSpec.ofChange channelCarriesWrong)

/- THE SECOND FORM. 'bulk': how many values and letters a reading holds, each counted each time it is reached (what is shared counts as often as it is met; a slice's spare places count too). A statement '..UptoSaid' is the law's where the arguments, and the package variables that the reading takes, are together of bulk at most 1048576: NARROWER than '..Said'. Prove '..Said' where nothing that the law and all that it calls make is longer than what came in: it says more and counts as full. Else prove '..UptoSaid'. A law counts once. -/
mutual
def uptoBulk {H : Type} : DataW H → Nat
  | .lit (.string bytes) => bytes.length + 1
  | .lit _ => 1
  | .nil => 1
  | .ptr d => uptoBulk d + 1
  | .slice elems spare => uptoBulkAll elems + uptoBulkAll spare + 1
  | .agg parts => uptoBulkAll parts + 1
  | .iface _ d => uptoBulk d + 1
  | .map entries => uptoBulkEntries entries + 1
  | .held _ => 1
def uptoBulkAll {H : Type} : List (DataW H) → Nat
  | [] => 0
  | d :: r => uptoBulk d + uptoBulkAll r
def uptoBulkEntries {H : Type} : List (Lit × DataW H) → Nat
  | [] => 0
  | x :: r => uptoBulkEntry x + uptoBulkEntries r
def uptoBulkEntry {H : Type} : Lit × DataW H → Nat
  | (.string bytes, d) => bytes.length + uptoBulk d + 1
  | (_, d) => uptoBulk d + 1
 end
def uptoSmall : (H : Type) → List (DataW H) → Bool := fun _ ds => decide (uptoBulkAll ds ≤ 1048576)
def OpenSpec.upto (s : _root_.Go.ChangeSpec) : _root_.Go.OpenSpec := { _root_.Go.OpenSpec.ofChange s with cond := some uptoSmall }

/-- 'transputerlaw30.ChannelOrder', WHERE WHAT IT READS IS OF BULK AT MOST 1048576: true; the input reads as it did. -/
def channelOrderUptoRow : OpenClaim := { program := "ytbdcobclpfcdhaa", sum := "e11c7a8e3a33ded20e3c64826e3ee04bd817947aee50d49200c1bc7d6c4c6193", func := "transputer/transputerlaw30.ChannelOrder", spec := "channelOrder", unfollowed := true, recurses := true, apart := false, narrowed := true }
def ChannelOrderUptoSaid : Prop := channelOrderUptoRow.holds Try.pinned (OpenSpec.upto channelOrderSpec)

/-- 'transputerlaw30.ChannelChoices', WHERE WHAT IT READS IS OF BULK AT MOST 1048576: true; the input reads as it did. -/
def channelChoicesUptoRow : OpenClaim := { program := "ytbdcobclpfcdhaa", sum := "e11c7a8e3a33ded20e3c64826e3ee04bd817947aee50d49200c1bc7d6c4c6193", func := "transputer/transputerlaw30.ChannelChoices", spec := "channelChoices", unfollowed := true, recurses := true, apart := false, narrowed := true }
def ChannelChoicesUptoSaid : Prop := channelChoicesUptoRow.holds Try.pinned (OpenSpec.upto channelChoicesSpec)

/-- 'transputerlaw30.ChannelNothing', WHERE WHAT IT READS IS OF BULK AT MOST 1048576: true; the input reads as it did. -/
def channelNothingUptoRow : OpenClaim := { program := "ytbdcobclpfcdhaa", sum := "e11c7a8e3a33ded20e3c64826e3ee04bd817947aee50d49200c1bc7d6c4c6193", func := "transputer/transputerlaw30.ChannelNothing", spec := "channelNothing", unfollowed := true, recurses := true, apart := false, narrowed := true }
def ChannelNothingUptoSaid : Prop := channelNothingUptoRow.holds Try.pinned (OpenSpec.upto channelNothingSpec)

/-- 'transputerlaw30.ChannelShort', WHERE WHAT IT READS IS OF BULK AT MOST 1048576: true; the input reads as it did. -/
def channelShortUptoRow : OpenClaim := { program := "ytbdcobclpfcdhaa", sum := "e11c7a8e3a33ded20e3c64826e3ee04bd817947aee50d49200c1bc7d6c4c6193", func := "transputer/transputerlaw30.ChannelShort", spec := "channelShort", unfollowed := true, recurses := true, apart := false, narrowed := true }
def ChannelShortUptoSaid : Prop := channelShortUptoRow.holds Try.pinned (OpenSpec.upto channelShortSpec)

/-- 'transputerlaw30.ChannelMoves', WHERE WHAT IT READS IS OF BULK AT MOST 1048576: true; the input reads as it did. -/
def channelMovesUptoRow : OpenClaim := { program := "ytbdcobclpfcdhaa", sum := "e11c7a8e3a33ded20e3c64826e3ee04bd817947aee50d49200c1bc7d6c4c6193", func := "transputer/transputerlaw30.ChannelMoves", spec := "channelMoves", unfollowed := true, recurses := true, apart := false, narrowed := true }
def ChannelMovesUptoSaid : Prop := channelMovesUptoRow.holds Try.pinned (OpenSpec.upto channelMovesSpec)

/-- 'transputerlaw30.ChannelExecs', WHERE WHAT IT READS IS OF BULK AT MOST 1048576: true; the input reads as it did. -/
def channelExecsUptoRow : OpenClaim := { program := "ytbdcobclpfcdhaa", sum := "e11c7a8e3a33ded20e3c64826e3ee04bd817947aee50d49200c1bc7d6c4c6193", func := "transputer/transputerlaw30.ChannelExecs", spec := "channelExecs", unfollowed := true, recurses := true, apart := false, narrowed := true }
def ChannelExecsUptoSaid : Prop := channelExecsUptoRow.holds Try.pinned (OpenSpec.upto channelExecsSpec)

/-- 'transputerlaw30.ChannelErrors', WHERE WHAT IT READS IS OF BULK AT MOST 1048576: true; the input reads as it did. -/
def channelErrorsUptoRow : OpenClaim := { program := "ytbdcobclpfcdhaa", sum := "e11c7a8e3a33ded20e3c64826e3ee04bd817947aee50d49200c1bc7d6c4c6193", func := "transputer/transputerlaw30.ChannelErrors", spec := "channelErrors", unfollowed := true, recurses := true, apart := false, narrowed := true }
def ChannelErrorsUptoSaid : Prop := channelErrorsUptoRow.holds Try.pinned (OpenSpec.upto channelErrorsSpec)

/-- 'transputerlaw30.ChannelCarries', WHERE WHAT IT READS IS OF BULK AT MOST 1048576: true; the input reads as it did. -/
def channelCarriesUptoRow : OpenClaim := { program := "ytbdcobclpfcdhaa", sum := "e11c7a8e3a33ded20e3c64826e3ee04bd817947aee50d49200c1bc7d6c4c6193", func := "transputer/transputerlaw30.ChannelCarries", spec := "channelCarries", unfollowed := true, recurses := true, apart := false, narrowed := true }
def ChannelCarriesUptoSaid : Prop := channelCarriesUptoRow.holds Try.pinned (OpenSpec.upto channelCarriesSpec)

end Rows
end Go.Proofs.Ytbdcobclpfcdhaa
