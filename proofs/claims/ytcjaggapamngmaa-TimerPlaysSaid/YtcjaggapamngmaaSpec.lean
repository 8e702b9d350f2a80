/- Memories: what the functions of layer 3 compute, in plain Lean. No program in sight. -/
import Derived.Test.YtcjaggapamngmaaSxC

namespace Go.Proofs
open Go Go.Sx
def bytesI (l : List Int) : List Value := l.map (Value.int .u8)
@[simp] theorem bytesI_length (l : List Int) : (bytesI l).length = l.length := by simp [bytesI]
theorem bytesI_append (a b : List Int) : bytesI (a ++ b) = bytesI a ++ bytesI b := by simp [bytesI]
theorem bytesI_one (l : List Int) : ∀ u ∈ bytesI l, u.oneCell' = true := by
  intro u hu; obtain ⟨n, _, rfl⟩ := List.mem_map.1 hu; rfl
theorem bytesI_at {l : List Int} {j : Nat} (h : j < l.length) : (bytesI l)[j]? = some (SV.int .u8 (l.getD j 0)).cv := by
  simp [bytesI, h, SV.cv, SV.den]
theorem seg_bytesI (l : List Int) (a n : Nat) : seg (bytesI l) a n = bytesI ((l.drop a).take n) := by
  simp [seg, bytesI, List.map_drop, List.map_take]
/-- l with v from place off on. -/
def setL (l : List Int) (off : Nat) (v : List Int) : List Int := l.take off ++ v ++ l.drop (off + v.length)
theorem setV_bytesI (l : List Int) (off : Nat) (v : List Int) : setV (bytesI l) off (bytesI v) = bytesI (setL l off v) := by
  simp [setV, setL, bytesI, List.map_take, List.map_drop]
theorem setL_length {l v : List Int} {off : Nat} (h : off + v.length ≤ l.length) : (setL l off v).length = l.length := by
  simp [setL]; omega
/-- Where an address lies. -/
def ofAt (at_ : Int) : Int := at_ + 2147483648
/-- Not within n bytes. -/
def spanBad (n : Nat) (at_ k : Int) : Bool := bif decide (ofAt at_ ≥ n) then true else decide (k > n - ofAt at_)
/-- May a memory have n bytes. -/
def mayM (n : Int) : Bool := bif bif decide (n ≥ 1024) then decide (n ≤ 65536) else false then n.tmod 4 == 0 else false
abbrev mBox (n : Nat) : Ch := .blk 33 [.sl 1 0 n n]
abbrev mOwn (l : List Int) : Ch := .own 5 1 l.length (bytesI l)
end Go.Proofs
