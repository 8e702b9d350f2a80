/-
  No cell of these rows narrows 'for every input' (looked for: loops, veiled, ifaces, maps, wideKeys, modest, calm, conditions, laid).
  DERIVED. THE GIVEN ROWS OF THIS SEAT. 8 by the template 'for every input the law returns true; each argument reads behind the call as it read before'; 0 by the template 'total and deterministic' (their statements: YtoinoeamegoioaaTotals.lean).
  GIVEN WITH THE SEED: the statements are not yours to turn. If you find one false, say at which input.
  Laid BY PROGRAM, IN A SANDBOX (cutbox-rows.mjs): the forced cells as the released guide's own fill.sh prints them over the translation 46668469939d0e88… (all of the seat's roots in one cut). By AI agents, Wed Nov 11 2026. No macro, syntax, notation, axiom, sorry.
-/
import Derived.Test.YtoinoeamegoioaaChecked
import GoSem.Claim
import GoSem.ClaimJoined
import GoSem.ClaimMapViews
import Derived.JoinedTies
import Derived.KernelRfl
namespace Go.Proofs.Ytoinoeamegoioaa
/- THE CELL 'sum', in the pinned program and in every row, IS THE sha256 OF THE DUMP (.gsa) THAT YtoinoeamegoioaaProg.lean LOADS. Nothing in Lean hashes anything: it is a label: what it is worth is what the hold of that sum in a sandbox is worth. -/
noncomputable def Try.pinned : Pinned := { name := "ytoinoeamegoioaa", sum := "46668469939d0e88b9eec5d36e1822a5def5b4f5f32c3b035413bd0045b3cf85", checked := Try.checked }
namespace Rows
def none {H : Type} : Left H := { results := [], args := [] }

/-- 'transputerlaw02.LongSums': WHATEVER THE INPUT: true; the input reads as it did. -/
def longSumsSpec : ChangeSpec := { name := "longSums", fn := fun _ => fun
  | [d1, d2, d3] => { results := [.lit (.bool true)], args := [d1, d2, d3] }
  | _ => none }
def longSumsRow : OpenClaim := { program := "ytoinoeamegoioaa", sum := "46668469939d0e88b9eec5d36e1822a5def5b4f5f32c3b035413bd0045b3cf85", func := "transputer/transputerlaw02.LongSums", spec := "longSums", unfollowed := true, recurses := true, named := ["math/bits.overflowError"], apart := false }
def LongSumsSaid : Prop := longSumsRow.holds Try.pinned (OpenSpec.ofChange longSumsSpec)

/-- ITS FALSE NEIGHBOUR: 'it returns false'. Refute it at one input. -/
def longSumsWrong : ChangeSpec := { name := "longSums", fn := fun _ => fun
  | [d1, d2, d3] => { results := [.lit (.bool false)], args := [d1, d2, d3] }
  | _ => none }
def LongSumsWrongFalsely : Prop := longSumsRow.holds Try.pinned (OpenSpec.ofChange longSumsWrong)

/-- 'transputerlaw02.LongShifts': WHATEVER THE INPUT: true; the input reads as it did. -/
def longShiftsSpec : ChangeSpec := { name := "longShifts", fn := fun _ => fun
  | [d1, d2, d3] => { results := [.lit (.bool true)], args := [d1, d2, d3] }
  | _ => none }
def longShiftsRow : OpenClaim := { program := "ytoinoeamegoioaa", sum := "46668469939d0e88b9eec5d36e1822a5def5b4f5f32c3b035413bd0045b3cf85", func := "transputer/transputerlaw02.LongShifts", spec := "longShifts", unfollowed := true, recurses := true, named := ["math/bits.overflowError"], apart := false }
def LongShiftsSaid : Prop := longShiftsRow.holds Try.pinned (OpenSpec.ofChange longShiftsSpec)

/-- ITS FALSE NEIGHBOUR: 'it returns false'. Refute it at one input. -/
def longShiftsWrong : ChangeSpec := { name := "longShifts", fn := fun _ => fun
  | [d1, d2, d3] => { results := [.lit (.bool false)], args := [d1, d2, d3] }
  | _ => none }
def LongShiftsWrongFalsely : Prop := longShiftsRow.holds Try.pinned (OpenSpec.ofChange longShiftsWrong)

/-- 'transputerlaw02.LongBack': WHATEVER THE INPUT: true; the input reads as it did. -/
def longBackSpec : ChangeSpec := { name := "longBack", fn := fun _ => fun
  | [d1, d2, d3] => { results := [.lit (.bool true)], args := [d1, d2, d3] }
  | _ => none }
def longBackRow : OpenClaim := { program := "ytoinoeamegoioaa", sum := "46668469939d0e88b9eec5d36e1822a5def5b4f5f32c3b035413bd0045b3cf85", func := "transputer/transputerlaw02.LongBack", spec := "longBack", unfollowed := true, recurses := true, named := ["math/bits.overflowError"], apart := false }
def LongBackSaid : Prop := longBackRow.holds Try.pinned (OpenSpec.ofChange longBackSpec)

/-- ITS FALSE NEIGHBOUR: 'it returns false'. Refute it at one input. -/
def longBackWrong : ChangeSpec := { name := "longBack", fn := fun _ => fun
  | [d1, d2, d3] => { results := [.lit (.bool false)], args := [d1, d2, d3] }
  | _ => none }
def LongBackWrongFalsely : Prop := longBackRow.holds Try.pinned (OpenSpec.ofChange longBackWrong)

/-- 'transputerlaw02.LongChain': WHATEVER THE INPUT: true; the input reads as it did. -/
def longChainSpec : ChangeSpec := { name := "longChain", fn := fun _ => fun
  | [d1, d2] => { results := [.lit (.bool true)], args := [d1, d2] }
  | _ => none }
def longChainRow : OpenClaim := { program := "ytoinoeamegoioaa", sum := "46668469939d0e88b9eec5d36e1822a5def5b4f5f32c3b035413bd0045b3cf85", func := "transputer/transputerlaw02.LongChain", spec := "longChain", unfollowed := true, recurses := true, named := ["math/bits.overflowError"], apart := false }
def LongChainSaid : Prop := longChainRow.holds Try.pinned (OpenSpec.ofChange longChainSpec)

/-- ITS FALSE NEIGHBOUR: 'it returns false'. Refute it at one input. -/
def longChainWrong : ChangeSpec := { name := "longChain", fn := fun _ => fun
  | [d1, d2] => { results := [.lit (.bool false)], args := [d1, d2] }
  | _ => none }
def LongChainWrongFalsely : Prop := longChainRow.holds Try.pinned (OpenSpec.ofChange longChainWrong)

/-- 'transputerlaw02.LongWhole': WHATEVER THE INPUT: true; the input reads as it did. -/
def longWholeSpec : ChangeSpec := { name := "longWhole", fn := fun _ => fun
  | [d1, d2, d3] => { results := [.lit (.bool true)], args := [d1, d2, d3] }
  | _ => none }
def longWholeRow : OpenClaim := { program := "ytoinoeamegoioaa", sum := "46668469939d0e88b9eec5d36e1822a5def5b4f5f32c3b035413bd0045b3cf85", func := "transputer/transputerlaw02.LongWhole", spec := "longWhole", unfollowed := true, recurses := true, named := ["math/bits.overflowError"], apart := false }
def LongWholeSaid : Prop := longWholeRow.holds Try.pinned (OpenSpec.ofChange longWholeSpec)

/-- ITS FALSE NEIGHBOUR: 'it returns false'. Refute it at one input. -/
def longWholeWrong : ChangeSpec := { name := "longWhole", fn := fun _ => fun
  | [d1, d2, d3] => { results := [.lit (.bool false)], args := [d1, d2, d3] }
  | _ => none }
def LongWholeWrongFalsely : Prop := longWholeRow.holds Try.pinned (OpenSpec.ofChange longWholeWrong)

/-- 'transputerlaw02.LongTurns': WHATEVER THE INPUT: true; the input reads as it did. -/
def longTurnsSpec : ChangeSpec := { name := "longTurns", fn := fun _ => fun
  | [d1, d2, d3] => { results := [.lit (.bool true)], args := [d1, d2, d3] }
  | _ => none }
def longTurnsRow : OpenClaim := { program := "ytoinoeamegoioaa", sum := "46668469939d0e88b9eec5d36e1822a5def5b4f5f32c3b035413bd0045b3cf85", func := "transputer/transputerlaw02.LongTurns", spec := "longTurns", unfollowed := true, recurses := true, named := ["math/bits.overflowError"], apart := false }
def LongTurnsSaid : Prop := longTurnsRow.holds Try.pinned (OpenSpec.ofChange longTurnsSpec)

/-- ITS FALSE NEIGHBOUR: 'it returns false'. Refute it at one input. -/
def longTurnsWrong : ChangeSpec := { name := "longTurns", fn := fun _ => fun
  | [d1, d2, d3] => { results := [.lit (.bool false)], args := [d1, d2, d3] }
  | _ => none }
def LongTurnsWrongFalsely : Prop := longTurnsRow.holds Try.pinned (OpenSpec.ofChange longTurnsWrong)

/-- 'transputerlaw02.LongAdds': WHATEVER THE INPUT: true; the input reads as it did. -/
def longAddsSpec : ChangeSpec := { name := "longAdds", fn := fun _ => fun
  | [d1, d2, d3] => { results := [.lit (.bool true)], args := [d1, d2, d3] }
  | _ => none }
def longAddsRow : OpenClaim := { program := "ytoinoeamegoioaa", sum := "46668469939d0e88b9eec5d36e1822a5def5b4f5f32c3b035413bd0045b3cf85", func := "transputer/transputerlaw02.LongAdds", spec := "longAdds", unfollowed := true, recurses := true, named := ["math/bits.overflowError"], apart := false }
def LongAddsSaid : Prop := longAddsRow.holds Try.pinned (OpenSpec.ofChange longAddsSpec)

/-- ITS FALSE NEIGHBOUR: 'it returns false'. Refute it at one input. -/
def longAddsWrong : ChangeSpec := { name := "longAdds", fn := fun _ => fun
  | [d1, d2, d3] => { results := [.lit (.bool false)], args := [d1, d2, d3] }
  | _ => none }
def LongAddsWrongFalsely : Prop := longAddsRow.holds Try.pinned (OpenSpec.ofChange longAddsWrong)

/-- 'transputerlaw02.LongSigned': WHATEVER THE INPUT: true; the input reads as it did. -/
def longSignedSpec : ChangeSpec := { name := "longSigned", fn := fun _ => fun
  | [d1, d2, d3, d4] => { results := [.lit (.bool true)], args := [d1, d2, d3, d4] }
  | _ => none }
def longSignedRow : OpenClaim := { program := "ytoinoeamegoioaa", sum := "46668469939d0e88b9eec5d36e1822a5def5b4f5f32c3b035413bd0045b3cf85", func := "transputer/transputerlaw02.LongSigned", spec := "longSigned", unfollowed := true, recurses := true, named := ["math/bits.overflowError"], apart := false }
def LongSignedSaid : Prop := longSignedRow.holds Try.pinned (OpenSpec.ofChange longSignedSpec)

/-- ITS FALSE NEIGHBOUR: 'it returns false'. Refute it at one input. -/
def longSignedWrong : ChangeSpec := { name := "longSigned", fn := fun _ => fun
  | [d1, d2, d3, d4] => { results := [.lit (.bool false)], args := [d1, d2, d3, d4] }
  | _ => none }
def LongSignedWrongFalsely : Prop := longSignedRow.holds Try.pinned (OpenSpec.ofChange longSignedWrong)

/- THE SECOND FORM. 'bulk': how many values and letters a reading holds, each counted each time it is reached (what is shared counts as often as it is met; a slice's spare places count too). A statement '..UptoSaid' is the law's where the arguments, and the package variables that the reading takes, are together of bulk at most 1048576: NARROWER than '..Said'. Prove '..Said' where nothing that the law and all that it calls make is longer than what came in: it says more and counts as full. Else prove '..UptoSaid'. A law counts once. -/
mutual
def uptoBulk {H : Type} : DataW H → Nat
  | .lit (.string bytes) => bytes.length + 1
  | .lit _ => 1
  | .nil => 1
  | .ptr d => uptoBulk d + 1
  | .slice elems spare => uptoBulkAll elems + uptoBulkAll spare + 1
  | .agg parts => uptoBulkAll parts + 1
  | .iface _ d => uptoBulk d + 1
  | .map entries => uptoBulkEntries entries + 1
  | .held _ => 1
def uptoBulkAll {H : Type} : List (DataW H) → Nat
  | [] => 0
  | d :: r => uptoBulk d + uptoBulkAll r
def uptoBulkEntries {H : Type} : List (Lit × DataW H) → Nat
  | [] => 0
  | x :: r => uptoBulkEntry x + uptoBulkEntries r
def uptoBulkEntry {H : Type} : Lit × DataW H → Nat
  | (.string bytes, d) => bytes.length + uptoBulk d + 1
  | (_, d) => uptoBulk d + 1
 end
def uptoSmall : (H : Type) → List (DataW H) → Bool := fun _ ds => decide (uptoBulkAll ds ≤ 1048576)
def OpenSpec.upto (s : _root_.Go.ChangeSpec) : _root_.Go.OpenSpec := { _root_.Go.OpenSpec.ofChange s with cond := some uptoSmall }

/-- 'transputerlaw02.LongSums', WHERE WHAT IT READS IS OF BULK AT MOST 1048576: true; the input reads as it did. -/
def longSumsUptoRow : OpenClaim := { program := "ytoinoeamegoioaa", sum := "46668469939d0e88b9eec5d36e1822a5def5b4f5f32c3b035413bd0045b3cf85", func := "transputer/transputerlaw02.LongSums", spec := "longSums", unfollowed := true, recurses := true, named := ["math/bits.overflowError"], apart := false, narrowed := true }
def LongSumsUptoSaid : Prop := longSumsUptoRow.holds Try.pinned (OpenSpec.upto longSumsSpec)

/-- 'transputerlaw02.LongShifts', WHERE WHAT IT READS IS OF BULK AT MOST 1048576: true; the input reads as it did. -/
def longShiftsUptoRow : OpenClaim := { program := "ytoinoeamegoioaa", sum := "46668469939d0e88b9eec5d36e1822a5def5b4f5f32c3b035413bd0045b3cf85", func := "transputer/transputerlaw02.LongShifts", spec := "longShifts", unfollowed := true, recurses := true, named := ["math/bits.overflowError"], apart := false, narrowed := true }
def LongShiftsUptoSaid : Prop := longShiftsUptoRow.holds Try.pinned (OpenSpec.upto longShiftsSpec)

/-- 'transputerlaw02.LongBack', WHERE WHAT IT READS IS OF BULK AT MOST 1048576: true; the input reads as it did. -/
def longBackUptoRow : OpenClaim := { program := "ytoinoeamegoioaa", sum := "46668469939d0e88b9eec5d36e1822a5def5b4f5f32c3b035413bd0045b3cf85", func := "transputer/transputerlaw02.LongBack", spec := "longBack", unfollowed := true, recurses := true, named := ["math/bits.overflowError"], apart := false, narrowed := true }
def LongBackUptoSaid : Prop := longBackUptoRow.holds Try.pinned (OpenSpec.upto longBackSpec)

/-- 'transputerlaw02.LongChain', WHERE WHAT IT READS IS OF BULK AT MOST 1048576: true; the input reads as it did. -/
def longChainUptoRow : OpenClaim := { program := "ytoinoeamegoioaa", sum := "46668469939d0e88b9eec5d36e1822a5def5b4f5f32c3b035413bd0045b3cf85", func := "transputer/transputerlaw02.LongChain", spec := "longChain", unfollowed := true, recurses := true, named := ["math/bits.overflowError"], apart := false, narrowed := true }
def LongChainUptoSaid : Prop := longChainUptoRow.holds Try.pinned (OpenSpec.upto longChainSpec)

/-- 'transputerlaw02.LongWhole', WHERE WHAT IT READS IS OF BULK AT MOST 1048576: true; the input reads as it did. -/
def longWholeUptoRow : OpenClaim := { program := "ytoinoeamegoioaa", sum := "46668469939d0e88b9eec5d36e1822a5def5b4f5f32c3b035413bd0045b3cf85", func := "transputer/transputerlaw02.LongWhole", spec := "longWhole", unfollowed := true, recurses := true, named := ["math/bits.overflowError"], apart := false, narrowed := true }
def LongWholeUptoSaid : Prop := longWholeUptoRow.holds Try.pinned (OpenSpec.upto longWholeSpec)

/-- 'transputerlaw02.LongTurns', WHERE WHAT IT READS IS OF BULK AT MOST 1048576: true; the input reads as it did. -/
def longTurnsUptoRow : OpenClaim := { program := "ytoinoeamegoioaa", sum := "46668469939d0e88b9eec5d36e1822a5def5b4f5f32c3b035413bd0045b3cf85", func := "transputer/transputerlaw02.LongTurns", spec := "longTurns", unfollowed := true, recurses := true, named := ["math/bits.overflowError"], apart := false, narrowed := true }
def LongTurnsUptoSaid : Prop := longTurnsUptoRow.holds Try.pinned (OpenSpec.upto longTurnsSpec)

/-- 'transputerlaw02.LongAdds', WHERE WHAT IT READS IS OF BULK AT MOST 1048576: true; the input reads as it did. -/
def longAddsUptoRow : OpenClaim := { program := "ytoinoeamegoioaa", sum := "46668469939d0e88b9eec5d36e1822a5def5b4f5f32c3b035413bd0045b3cf85", func := "transputer/transputerlaw02.LongAdds", spec := "longAdds", unfollowed := true, recurses := true, named := ["math/bits.overflowError"], apart := false, narrowed := true }
def LongAddsUptoSaid : Prop := longAddsUptoRow.holds Try.pinned (OpenSpec.upto longAddsSpec)

/-- 'transputerlaw02.LongSigned', WHERE WHAT IT READS IS OF BULK AT MOST 1048576: true; the input reads as it did. -/
def longSignedUptoRow : OpenClaim := { program := "ytoinoeamegoioaa", sum := "46668469939d0e88b9eec5d36e1822a5def5b4f5f32c3b035413bd0045b3cf85", func := "transputer/transputerlaw02.LongSigned", spec := "longSigned", unfollowed := true, recurses := true, named := ["math/bits.overflowError"], apart := false, narrowed := true }
def LongSignedUptoSaid : Prop := longSignedUptoRow.holds Try.pinned (OpenSpec.upto longSignedSpec)

end Rows
end Go.Proofs.Ytoinoeamegoioaa
