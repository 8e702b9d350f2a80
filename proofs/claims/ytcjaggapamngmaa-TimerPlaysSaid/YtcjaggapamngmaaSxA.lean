/- A symbolic executor over the model's code, with its soundness: values, chunks of memory, frames, and the judgement that a piece of code reaches its post from a frame and chunks. No program in sight: over any program. -/
import Derived.WalkKit
import Derived.ProofKit
import Derived.TacticsIn
import Derived.OrdersIn
import Derived.LoopN
import Derived.LoopNIn
import Derived.Deep.LoopGhost
import Derived.Deep.Quiet
import Derived.RangeFuncLeaves

namespace Go.Sx
open Go

/-- A scalar value: one cell. A pointer into chunk i, a slice over chunk i. -/
inductive SV where
  | int (k : IntKind) (n : Int)
  | bool (b : Bool)
  | loc (i off : Nat)
  | sl (i off len cap : Nat)
  | str (l : List UInt8)
  | raw (v : Value)
  | mp (i : Nat)

/-- What a chunk number stands for: a block, a place in it; or nothing. -/
structure Bd where
  g : Nat
  o : Nat
  nil : Bool

inductive TV where
  | s (v : SV)
  | agg (l : List SV)
  | clo (f : Fn) (first cap : List SV)
  | bnd (f : Fn) (l : List SV)

inductive FV where
  | t (v : TV)
  | tup (l : List TV)

def SV.den (β : Nat → Bd) : SV → Value
  | .int k n => .int k n
  | .bool b => .bool b
  | .loc i off => .pointer (some ⟨(β i).g, (β i).o + off, none⟩)
  | .sl i off len cap => .slice (cond (β i).nil none (some ⟨(β i).g, (β i).o + off, none⟩)) len cap
  | .str l => .string ⟨l.toArray⟩
  | .raw v => v
  | .mp i => .map (some (β i).g)

def TV.den (β : Nat → Bd) : TV → Value
  | .s v => v.den β
  | .agg l => .agg (l.map (SV.den β)).toArray
  | .clo f a b => .func f (a.map (SV.den β)).toArray (b.map (SV.den β)).toArray
  | .bnd f l => .func f #[.agg (l.map (SV.den β)).toArray] #[]

def FV.den (β : Nat → Bd) : FV → Value
  | .t v => v.den β
  | .tup l => .tuple (l.map (TV.den β)).toArray

/-- The chunks that a value names lie below m, and a raw scalar is one cell. -/
def SV.wf (m : Nat) : SV → Prop
  | .loc i _ => i < m
  | .sl i _ _ _ => i < m
  | .raw v => v.oneCell' = true
  | .mp i => i < m
  | _ => True

def TV.wf (m : Nat) : TV → Prop
  | .s v => v.wf m
  | .agg l => ∀ x ∈ l, x.wf m
  | .clo _ a b => (∀ x ∈ a, x.wf m) ∧ ∀ x ∈ b, x.wf m
  | .bnd _ l => ∀ x ∈ l, x.wf m

def FV.wf (m : Nat) : FV → Prop
  | .t v => v.wf m
  | .tup l => ∀ x ∈ l, x.wf m

theorem SV.wf_mono {m m' : Nat} (h : m ≤ m') {x : SV} (hx : x.wf m) : x.wf m' := by
  cases x <;> simp only [SV.wf] at * <;> first | omega | assumption
theorem TV.wf_mono {m m' : Nat} (h : m ≤ m') {x : TV} (hx : x.wf m) : x.wf m' := by
  cases x <;> simp only [TV.wf] at *
  · exact SV.wf_mono h hx
  · exact fun y hy => SV.wf_mono h (hx y hy)
  · exact ⟨fun y hy => SV.wf_mono h (hx.1 y hy), fun y hy => SV.wf_mono h (hx.2 y hy)⟩
  · exact fun y hy => SV.wf_mono h (hx y hy)
theorem FV.wf_mono {m m' : Nat} (h : m ≤ m') {x : FV} (hx : x.wf m) : x.wf m' := by
  cases x <;> simp only [FV.wf] at *
  · exact TV.wf_mono h hx
  · exact fun y hy => TV.wf_mono h (hx y hy)

theorem SV.den_ext {m : Nat} {β β' : Nat → Bd} (h : ∀ i, i < m → β' i = β i) {x : SV} (hx : x.wf m) : x.den β' = x.den β := by
  cases x <;> simp only [SV.wf, SV.den] at * <;> rw [h _ hx]
theorem SV.map_ext {m : Nat} {β β' : Nat → Bd} (h : ∀ i, i < m → β' i = β i) {l : List SV} (hx : ∀ x ∈ l, x.wf m) : l.map (SV.den β') = l.map (SV.den β) :=
  List.map_congr_left fun x hm => SV.den_ext h (hx x hm)
theorem TV.den_ext {m : Nat} {β β' : Nat → Bd} (h : ∀ i, i < m → β' i = β i) {x : TV} (hx : x.wf m) : x.den β' = x.den β := by
  cases x <;> simp only [TV.wf, TV.den] at *
  · exact SV.den_ext h hx
  · rw [SV.map_ext h hx]
  · rw [SV.map_ext h hx.1, SV.map_ext h hx.2]
  · rw [SV.map_ext h hx]
theorem FV.den_ext {m : Nat} {β β' : Nat → Bd} (h : ∀ i, i < m → β' i = β i) {x : FV} (hx : x.wf m) : x.den β' = x.den β := by
  cases x <;> simp only [FV.wf, FV.den] at *
  · exact TV.den_ext h hx
  · rw [List.map_congr_left fun y hm => TV.den_ext h (hx y hm)]

theorem SV.oneCell {m : Nat} {β : Nat → Bd} {x : SV} (hx : x.wf m) : (x.den β).oneCell' = true := by
  cases x <;> simp only [SV.wf, SV.den] at * <;> first | rfl | exact hx

/-- A map's entries. -/
def mpEs (β : Nat → Bd) : Nat → List (IntKind × Int × TV) → List MapEntry
  | _, [] => []
  | i, e :: l => { key := .int e.1 e.2.1, val := e.2.2.den β, born := i } :: mpEs β (i + 1) l
theorem mpEs_ext {m : Nat} {β β' : Nat → Bd} (h : ∀ i, i < m → β' i = β i) : ∀ {l : List (IntKind × Int × TV)} {i : Nat}, (∀ e ∈ l, e.2.2.wf m) → mpEs β' i l = mpEs β i l
  | [], _, _ => rfl
  | e :: l, i, hw => by
    simp only [mpEs, TV.den_ext h (hw e (by simp)), mpEs_ext h (l := l) (i := i + 1) fun x hx => hw x (by simp [hx])]

/-- A piece of memory that is known: a block of known cells; a block of cells behind one variable; a slice that the call owns (nil, or the head of a block); any other object; nothing. -/
inductive Ch where
  | blk (e : TypeId) (cs : List SV)
  | arr (e : TypeId) (xs : List Value)
  | own (e sz : Nat) (cap : Nat) (xs : List Value)
  | deep (ps : List (Option Addr × List Value))
  | view (xs : List Value)
  | dead
  | mp (es : List (IntKind × Int × TV))

def Ch.foot (b : Bd) : Ch → List Nat
  | .blk _ _ => [b.g]
  | .arr _ _ => [b.g]
  | .own _ _ _ _ => cond b.nil [] [b.g]
  | .deep _ => []
  | .view _ => []
  | .dead => []
  | .mp _ => [b.g]

/-- The blocks that a chunk's fact hangs on. -/
def Ch.rfoot (b : Bd) : Ch → List Nat
  | .view (_ :: _) => [b.g]
  | .deep ps => ps.filterMap fun p => match p.1, p.2 with
    | some x, _ :: _ => some x.block
    | _, _ => none
  | c => c.foot b

def Ch.sat (β : Nat → Bd) (b : Bd) (w : World) : Ch → Prop
  | .blk e cs => b.o = 0 ∧ w.heap[b.g]? = some (.cells (cs.map (SV.den β)).toArray e (0, 0))
  | .arr e xs => (b.o = 0 ∧ b.nil = false) ∧ w.heap[b.g]? = some (.cells xs.toArray e (0, 0))
  | .own e sz cap xs => (b.nil = true ∧ xs = [] ∧ cap = 0) ∨ (b.nil = false ∧ b.o = 0 ∧ cap ≤ maxLen) ∧ ∃ sp, (xs ++ sp).length = cap * sz ∧ w.heap[b.g]? = some (.cells (xs ++ sp).toArray e (0, 0))
  | .deep ps => ∀ p ∈ ps, ∀ (j : Nat) (v : Value), p.2[j]? = some v → ∃ x, p.1 = some x ∧ x.spot = none ∧ w.cell? ⟨x.block, x.off + j, none⟩ = some v
  | .view xs => ∀ (j : Nat) (v : Value), xs[j]? = some v → b.nil = false ∧ w.cell? ⟨b.g, b.o + j, none⟩ = some v
  | .dead => True
  | .mp es => b.o = 0 ∧ w.heap[b.g]? = some (.map (mpEs β 0 es).toArray es.length)

def Ch.wf (m : Nat) : Ch → Prop
  | .blk _ cs => ∀ x ∈ cs, x.wf m
  | .mp es => ∀ e ∈ es, e.2.2.wf m
  | _ => True

abbrev Heap := List (Nat × Obj)

/-- The world's streams are the same, and it has not shrunk. -/
structure Same (w w' : World) : Prop where
  os : w'.os = w.os
  tape : w'.tape = w.tape
  output : w'.output = w.output
  size : w.heap.size ≤ w'.heap.size

theorem Same.refl (w : World) : Same w w := ⟨rfl, rfl, rfl, Nat.le_refl _⟩
theorem Same.trans {a b c : World} (h : Same a b) (k : Same b c) : Same a c :=
  ⟨k.os.trans h.os, k.tape.trans h.tape, k.output.trans h.output, Nat.le_trans h.size k.size⟩

/-- The memory: the chunks, apart from each other and from the frame, and the frame as it was. -/
structure Sat (β : Nat → Bd) (σ : List Ch) (φ : Heap) (w : World) : Prop where
  disj : ∀ (i j : Nat) (c d : Ch), σ[i]? = some c → σ[j]? = some d → i ≠ j → ∀ g, g ∈ c.foot (β i) → g ∉ d.rfoot (β j)
  off : ∀ (i : Nat) (c : Ch), σ[i]? = some c → ∀ g, g ∈ c.foot (β i) → g ∉ φ.map (·.1)
  sat : ∀ (i : Nat) (c : Ch), σ[i]? = some c → Ch.sat β (β i) w c
  frame : ∀ p ∈ φ, w.heap[p.1]? = some p.2
  wf : ∀ c ∈ σ, c.wf σ.length

theorem foot_rfoot {b : Bd} {g : Nat} {c : Ch} (h : g ∈ c.foot b) : g ∈ c.rfoot b := by
  unfold Ch.rfoot; split
  · simp [Ch.foot] at h
  · simp [Ch.foot] at h
  · exact h

theorem mem_deep {ps : List (Option Addr × List Value)} {g : Nat} {b : Bd} : g ∈ (Ch.deep ps).rfoot b ↔ ∃ p ∈ ps, ∃ x v l, p.1 = some x ∧ p.2 = v :: l ∧ g = x.block := by
  simp only [Ch.rfoot, List.mem_filterMap]
  constructor
  · rintro ⟨p, hp, h⟩
    split at h
    · rename_i x v l h1 h2
      cases h
      exact ⟨p, hp, x, v, l, h1, h2, rfl⟩
    · cases h
  · rintro ⟨p, hp, x, v, l, h1, h2, rfl⟩
    exact ⟨p, hp, by rw [h1, h2]⟩

theorem mem_own {b : Bd} {g : Nat} (h : g ∈ (cond b.nil [] [b.g] : List Nat)) : b.nil = false ∧ g = b.g := by
  cases hb : b.nil <;> simp [hb] at h
  exact ⟨rfl, h⟩

theorem Ch.sat_rlt {β : Nat → Bd} {b : Bd} {w : World} {c : Ch} (h : c.sat β b w) {g : Nat} (hg : g ∈ c.rfoot b) : g < w.heap.size := by
  cases c with
  | blk e cs => simp [Ch.foot, Ch.rfoot] at hg; subst hg; exact (Array.getElem?_eq_some_iff.1 h.2).1
  | arr e xs => simp [Ch.foot, Ch.rfoot] at hg; subst hg; exact (Array.getElem?_eq_some_iff.1 h.2).1
  | mp es => simp [Ch.foot, Ch.rfoot] at hg; subst hg; exact (Array.getElem?_eq_some_iff.1 h.2).1
  | deep ps =>
    obtain ⟨p, hp, x, v, l, h1, h2, rfl⟩ := mem_deep.1 hg
    obtain ⟨x', hx, _, hc⟩ := h p hp 0 v (by rw [h2]; rfl)
    rw [h1] at hx; cases hx
    simpa using World.block_lt_of_cell? w _ hc
  | dead => simp [Ch.foot, Ch.rfoot] at hg
  | own e sz cap xs =>
    obtain ⟨hn, rfl⟩ := mem_own (b := b) (g := g) (by simpa [Ch.rfoot, Ch.foot] using hg)
    rcases h with ⟨h1, _⟩ | ⟨_, sp, _, h⟩
    · rw [hn] at h1; cases h1
    · exact (Array.getElem?_eq_some_iff.1 h).1
  | view xs =>
    cases xs with
    | nil => simp [Ch.foot, Ch.rfoot] at hg
    | cons x xs =>
      simp [Ch.rfoot] at hg; subst hg
      have := World.block_lt_of_cell? w _ (h 0 x rfl).2
      simpa using this

theorem Ch.sat_lt {β : Nat → Bd} {b : Bd} {w : World} {c : Ch} (h : c.sat β b w) {g : Nat} (hg : g ∈ c.foot b) : g < w.heap.size := Ch.sat_rlt h (foot_rfoot hg)

theorem cell_congr {w w' : World} {g : Nat} (h : w'.heap[g]? = w.heap[g]?) (o : Nat) : w'.cell? ⟨g, o, none⟩ = w.cell? ⟨g, o, none⟩ := by
  unfold World.cell?; simp only [h]

/-- A chunk's fact hangs on the blocks of its foot alone. -/
theorem Ch.sat_keep {β : Nat → Bd} {b : Bd} {w w' : World} {c : Ch} (h : c.sat β b w) (hk : ∀ g ∈ c.rfoot b, w'.heap[g]? = w.heap[g]?) : c.sat β b w' := by
  cases c with
  | blk e cs => simp only [Ch.sat, Ch.foot, Ch.rfoot, List.mem_singleton, forall_eq] at *; rw [hk]; exact h
  | arr e xs => simp only [Ch.sat, Ch.foot, Ch.rfoot, List.mem_singleton, forall_eq] at *; rw [hk]; exact h
  | mp es => simp only [Ch.sat, Ch.foot, Ch.rfoot, List.mem_singleton, forall_eq] at *; rw [hk]; exact h
  | deep ps =>
    intro p hp j v hv
    obtain ⟨x, h1, h2, hc⟩ := h p hp j v hv
    refine ⟨x, h1, h2, ?_⟩
    cases hl : p.2 with
    | nil => rw [hl] at hv; simp at hv
    | cons u l => rw [cell_congr (hk x.block (mem_deep.2 ⟨p, hp, x, u, l, h1, hl, rfl⟩))]; exact hc
  | dead => trivial
  | own e sz cap xs =>
    rcases h with h | ⟨hn, sp, hl, h⟩
    · exact .inl h
    · refine .inr ⟨hn, sp, hl, ?_⟩
      rw [hk b.g (by simp [Ch.foot, Ch.rfoot, hn.1])]; exact h
  | view xs =>
    intro j v hv
    obtain ⟨hn, hc⟩ := h j v hv
    refine ⟨hn, ?_⟩
    cases xs with
    | nil => simp at hv
    | cons x xs => rw [cell_congr (hk b.g (by simp [Ch.rfoot]))]; exact hc

theorem Ch.sat_ext {β β' : Nat → Bd} {b : Bd} {m : Nat} {w : World} {c : Ch} (hb : ∀ i, i < m → β' i = β i) (hw : c.wf m) (h : c.sat β b w) : c.sat β' b w := by
  cases c with
  | blk e cs => simp only [Ch.sat, Ch.wf] at *; rw [SV.map_ext hb hw]; exact h
  | mp es => simp only [Ch.sat, Ch.wf] at *; rw [mpEs_ext hb hw]; exact h
  | _ => exact h

theorem Ch.wf_mono {m m' : Nat} (h : m ≤ m') {c : Ch} (hc : c.wf m) : c.wf m' := by
  cases c with
  | blk e cs => exact fun x hx => SV.wf_mono h (hc x hx)
  | mp es => exact fun e he => TV.wf_mono h (hc e he)
  | _ => trivial

theorem Sat.chunk_lt {β : Nat → Bd} {σ : List Ch} {φ : Heap} {w : World} (h : Sat β σ φ w) {i : Nat} {c : Ch} (hc : σ[i]? = some c) {g : Nat} (hg : g ∈ c.foot (β i)) : g < w.heap.size :=
  Ch.sat_lt (h.sat i c hc) hg
theorem Sat.frame_lt {β : Nat → Bd} {σ : List Ch} {φ : Heap} {w : World} (h : Sat β σ φ w) {g : Nat} (hg : g ∈ φ.map (·.1)) : g < w.heap.size := by
  obtain ⟨p, hp, rfl⟩ := List.mem_map.1 hg
  exact (Array.getElem?_eq_some_iff.1 (h.frame p hp)).1

/-- A new chunk, apart from all. -/
theorem Sat.push {β : Nat → Bd} {σ : List Ch} {φ : Heap} {w w' : World} (h : Sat β σ φ w) (c : Ch) (b : Bd) (hk : ∀ g, g < w.heap.size → g ∉ c.foot b → w'.heap[g]? = w.heap[g]?)
    (hf : ∀ g, g ∈ c.foot b → w.heap.size ≤ g ∨ (∀ (i : Nat) (d : Ch), σ[i]? = some d → g ∉ d.rfoot (β i)) ∧ g ∉ φ.map (·.1)) (hrf : ∀ g, g ∈ c.rfoot b → w.heap.size ≤ g ∨ ∀ (i : Nat) (d : Ch), σ[i]? = some d → g ∉ d.foot (β i))
    (hwf : c.wf (σ.length + 1)) (hs : ∀ β', (∀ i, i < σ.length → β' i = β i) → β' σ.length = b → c.sat β' b w') :
    ∃ β', (∀ i, i < σ.length → β' i = β i) ∧ β' σ.length = b ∧ Sat β' (σ ++ [c]) φ w' := by
  let β' : Nat → Bd := fun i => if i < σ.length then β i else b
  have e1 : ∀ i, i < σ.length → β' i = β i := fun i hi => by simp [β', hi]
  have e2 : β' σ.length = b := by simp [β']
  have split : ∀ (i : Nat) (d : Ch), (σ ++ [c])[i]? = some d → (i < σ.length ∧ σ[i]? = some d) ∨ (i = σ.length ∧ d = c) := by
    intro i d hd
    rcases Nat.lt_trichotomy i σ.length with hi | hi | hi
    · rw [List.getElem?_append_left hi] at hd; exact .inl ⟨hi, hd⟩
    · subst hi
      rw [List.getElem?_append_right (Nat.le_refl _)] at hd
      simp at hd; exact .inr ⟨rfl, hd.symm⟩
    · rw [List.getElem?_eq_none (by simp; omega)] at hd; cases hd
  refine ⟨β', e1, e2, ?_, ?_, ?_, ?_, ?_⟩
  · intro i j d e hi hj hij g hg
    rcases split i d hi with ⟨hil, hi'⟩ | ⟨rfl, rfl⟩ <;> rcases split j e hj with ⟨hjl, hj'⟩ | ⟨rfl, rfl⟩
    · rw [e1 i hil] at hg; rw [e1 j hjl]; exact h.disj i j d e hi' hj' hij g hg
    · rw [e1 i hil] at hg
      rw [e2]
      intro hg'
      rcases hrf g hg' with hge | hno
      · have := h.chunk_lt hi' hg
        omega
      · exact hno i d hi' hg
    · rw [e2] at hg
      rw [e1 j hjl]
      intro hg'
      rcases hf g hg with hge | hno
      · have := Ch.sat_rlt (h.sat j e hj') hg'
        omega
      · exact hno.1 j e hj' hg'
    · exact absurd rfl hij
  · intro i d hi g hg
    rcases split i d hi with ⟨hil, hi'⟩ | ⟨rfl, rfl⟩
    · rw [e1 i hil] at hg; exact h.off i d hi' g hg
    · rw [e2] at hg
      intro hg'
      rcases hf g hg with hge | hno
      · have := h.frame_lt hg'
        omega
      · exact hno.2 hg'
  · intro i d hi
    rcases split i d hi with ⟨hil, hi'⟩ | ⟨rfl, rfl⟩
    · have h1 := h.sat i d hi'
      rw [e1 i hil]
      refine Ch.sat_ext e1 (h.wf d (List.mem_of_getElem? hi')) (Ch.sat_keep h1 fun g hg => ?_)
      refine hk g (Ch.sat_rlt h1 hg) fun hg' => ?_
      rcases hf g hg' with hge | hno
      · have := Ch.sat_rlt h1 hg
        omega
      · exact hno.1 i d hi' hg
    · rw [e2]; exact hs β' e1 e2
  · intro p hp
    have h1 := h.frame p hp
    have hlt := (Array.getElem?_eq_some_iff.1 h1).1
    rw [hk p.1 hlt fun hg' => (hf p.1 hg').elim (fun hge => by omega) fun hno => hno.2 (List.mem_map.2 ⟨p, hp, rfl⟩)]; exact h1
  · intro c' hc'
    simp only [List.length_append, List.length_cons, List.length_nil, Nat.zero_add]
    rcases List.mem_append.1 hc' with hc' | hc'
    · exact Ch.wf_mono (by omega) (h.wf c' hc')
    · simp at hc'; subst hc'; exact hwf

/-- A new block. -/
theorem Sat.alloc {β : Nat → Bd} {σ : List Ch} {φ : Heap} {w : World} (h : Sat β σ φ w) (c : Ch) (o : Obj)
    (hf : c.rfoot ⟨w.heap.size, 0, false⟩ = [w.heap.size]) (hwf : c.wf (σ.length + 1)) (hs : ∀ β', (∀ i, i < σ.length → β' i = β i) → β' σ.length = ⟨w.heap.size, 0, false⟩ → c.sat β' ⟨w.heap.size, 0, false⟩ (w.alloc o)) :
    ∃ β', (∀ i, i < σ.length → β' i = β i) ∧ β' σ.length = ⟨w.heap.size, 0, false⟩ ∧ Sat β' (σ ++ [c]) φ (w.alloc o) := by
  refine h.push c _ (fun g hg _ => RowKit.Below.heap_alloc w o g hg) ?_ ?_ hwf hs
  · intro g hg
    have := foot_rfoot hg
    rw [hf] at this
    simp at this; exact .inl (by omega)
  · intro g hg
    rw [hf] at hg
    simp at hg; exact .inl (by omega)

end Go.Sx

namespace Go.Sx
open Go

/-- A walk's mode: none is plain; some r is fenced, in the frame of the round r, if there is one. -/
abbrev Md := Option (Option Nat)
abbrev fz (r : Option Nat) : Fence := { Fence.wide with round := r }
theorem fz_fn (r : Option Nat) (f : FuncId) : (fz r).fn f := trivial
theorem fz_depth (r : Option Nat) : (fz r).depth = none := rfl

def wpLst (m : Md) (P : Program) (ops : Array Oper) (Q : Exit → Act → World → Prop) (l : List Oper) (a : Act) (w : World) : Prop := match m with
  | none => wpList P ops Q l a w
  | some r => wpListIn (fz r) 0 P ops Q l a w
def opW (m : Md) (P : Program) (o : Oper) (a : Act) (w : World) (K : Act → World → Prop) (Q : Exit → Act → World → Prop) : Prop := match m with
  | none => o.wp P a w K Q
  | some r => o.wpIn (fz r) 0 P a w K Q
def cdW (m : Md) (P : Program) (c : Code) (Q : Exit → Act → World → Prop) (a : Act) (w : World) : Prop := match m with
  | none => c.wp P Q a w
  | some r => c.wpIn (fz r) 0 P Q a w

theorem semAt_of {P : Program} {r : Option Nat} {ρ : Operand → Value} {o : Oper} {w w' : World} {x : Next} (h : (execOp ρ o).run P w = .ok x w') (hx : ∀ d, x ≠ .defer d) : Oper.semAt r ρ o = execOp ρ o := by
  refine Oper.semAt_eq r ρ o fun c hc => ?_
  unfold execOp at h
  rw [hc] at h
  simp only [Sem.run_bind] at h
  cases hr : (resolve ρ c o.type).run P w with
  | ok d w1 => rw [hr] at h; simp only [Result.andThen_ok, Sem.run_pure] at h; cases h; exact hx _ rfl
  | halt y w1 => rw [hr] at h; simp [Result.andThen] at h

theorem wpIn_val {P : Program} {r : Option Nat} {o : Oper} {a : Act} {w w' : World} {v : Value} {K : Act → World → Prop} {Q : Exit → Act → World → Prop}
    (hr : (execOp a.eval o).run P w = .ok (.value v) w') (h : K (a.put o.dst v) w') : o.wpIn (fz r) 0 P a w K Q := by
  refine ⟨fun f _ => fz_fn r f, ?_⟩
  show o.uponIn (fz r) 0 P a K Q ((o.semAt r a.eval).run P w)
  rw [semAt_of hr (by simp), hr]; exact h
theorem wpIn_skipd {P : Program} {r : Option Nat} {o : Oper} {a : Act} {w w' : World} {K : Act → World → Prop} {Q : Exit → Act → World → Prop}
    (hr : (execOp a.eval o).run P w = .ok .skip w') (h : K (a.put o.dst undef) w') : o.wpIn (fz r) 0 P a w K Q := by
  refine ⟨fun f _ => fz_fn r f, ?_⟩
  show o.uponIn (fz r) 0 P a K Q ((o.semAt r a.eval).run P w)
  rw [semAt_of hr (by simp), hr]; exact h
theorem wpIn_enter {P : Program} {r : Option Nat} {o : Oper} {a : Act} {w w1 : World} {f : FuncId} {args : Array Value} {K : Act → World → Prop} {Q : Exit → Act → World → Prop}
    (hr : (execOp a.eval o).run P w = .ok (.enter f args) w1) (h : Calls P f args w1 fun e w' => match e with
      | .returned v => K (a.put o.dst v) w'
      | .panicked chain => Q (.panic chain) a w'
      | .outgrown => False) : o.wpIn (fz r) 0 P a w K Q := by
  refine ⟨fun f _ => fz_fn r f, ?_⟩
  show o.uponIn (fz r) 0 P a K Q ((o.semAt r a.eval).run P w)
  rw [semAt_of hr (by simp), hr]
  refine ⟨fun h => (by cases h), ?_⟩
  have h1 := (callsIn_wide (n := 0 - 1)).2 h
  refine CallsIn.mono (F := Fence.wide) h1 fun e w' he => ?_
  cases e <;> first | exact he | exact (he : False).elim

section
variable {m : Md} {P : Program} {ops : Array Oper} {Q : Exit → Act → World → Prop} {rest : List Oper} {o : Oper} {a : Act} {w w' : World}

theorem wpList_nil (h : Q .normal a w) : wpLst m P ops Q [] a w := by
  cases m with
  | none => exact h
  | some r => exact h
theorem wpList_val {v : Value} (hw : Region.wanted o (yielded ops a.tmps) = true) (hr : (execOp a.eval o).run P w = .ok (.value v) w') (h : wpLst m P ops Q rest (a.put o.dst v) w') : wpLst m P ops Q (o :: rest) a w := by
  cases m with
  | none =>
    show wpList P ops Q (o :: rest) a w
    unfold wpList
    rw [if_pos hw]
    refine .inl ?_
    unfold Oper.wp
    rw [hr]
    exact h
  | some r =>
    show wpListIn (fz r) 0 P ops Q (o :: rest) a w
    unfold wpListIn
    rw [if_pos hw]
    exact wpIn_val hr h
theorem wpList_skipd (hw : Region.wanted o (yielded ops a.tmps) = true) (hr : (execOp a.eval o).run P w = .ok .skip w') (h : wpLst m P ops Q rest (a.put o.dst undef) w') : wpLst m P ops Q (o :: rest) a w := by
  cases m with
  | none =>
    show wpList P ops Q (o :: rest) a w
    unfold wpList
    rw [if_pos hw]
    refine .inl ?_
    unfold Oper.wp
    rw [hr]
    exact h
  | some r =>
    show wpListIn (fz r) 0 P ops Q (o :: rest) a w
    unfold wpListIn
    rw [if_pos hw]
    exact wpIn_skipd hr h
theorem wpList_skip (hw : Region.wanted o (yielded ops a.tmps) = false) (h : wpLst m P ops Q rest (a.put o.dst undef) w) : wpLst m P ops Q (o :: rest) a w := by
  cases m with
  | none => exact Go.wpList_skip hw h
  | some r =>
    show wpListIn (fz r) 0 P ops Q (o :: rest) a w
    unfold wpListIn
    rw [if_neg (by rw [hw]; simp)]
    exact ⟨fun f _ => fz_fn r f, h⟩
/-- A call, panics and all. -/
theorem wpList_enterP {f : FuncId} {args : Array Value} (hw : Region.wanted o (yielded ops a.tmps) = true) (hr : (execOp a.eval o).run P w = .ok (.enter f args) w')
    (h : Calls P f args w' fun e w'' => match e with
      | .returned v => wpLst m P ops Q rest (a.put o.dst v) w''
      | .panicked chain => Q (.panic chain) a w''
      | .outgrown => False) : wpLst m P ops Q (o :: rest) a w := by
  cases m with
  | none =>
    show wpList P ops Q (o :: rest) a w
    unfold wpList
    rw [if_pos hw]
    refine .inl ?_
    unfold Oper.wp
    rw [hr]
    refine h.mono fun e w'' he => ?_
    cases e <;> first | exact he | exact (he : False).elim
  | some r =>
    show wpListIn (fz r) 0 P ops Q (o :: rest) a w
    unfold wpListIn
    rw [if_pos hw]
    exact wpIn_enter hr h
theorem wpList_enter {f : FuncId} {args : Array Value} (hw : Region.wanted o (yielded ops a.tmps) = true) (hr : (execOp a.eval o).run P w = .ok (.enter f args) w')
    (h : Calls P f args w' fun e w'' => ∃ v, e = .returned v ∧ wpLst m P ops Q rest (a.put o.dst v) w'') : wpLst m P ops Q (o :: rest) a w :=
  wpList_enterP hw hr (h.mono fun e w'' ⟨v, he, hk⟩ => by subst he; exact hk)
end

theorem wpList_op {m : Md} {P : Program} {ops : Array Oper} {Q : Exit → Act → World → Prop} {rest : List Oper} {o : Oper} {a : Act} {w : World} (hw : Region.wanted o (yielded ops a.tmps) = true)
    (h : opW m P o a w (wpLst m P ops Q rest) Q) : wpLst m P ops Q (o :: rest) a w := by
  cases m with
  | none => show wpList P ops Q (o :: rest) a w; unfold wpList; rw [if_pos hw]; exact .inl h
  | some r => show wpListIn (fz r) 0 P ops Q (o :: rest) a w; unfold wpListIn; rw [if_pos hw]; exact h
theorem opW_mono {m : Md} {P : Program} {o : Oper} {a : Act} {w : World} {K K' : Act → World → Prop} {Q : Exit → Act → World → Prop} (h : ∀ a w, K a w → K' a w) (hh : opW m P o a w K Q) : opW m P o a w K' Q := by
  cases m with
  | none => exact Oper.wp_mono h hh
  | some r => exact Oper.wpIn_mono h hh
theorem opW_val {m : Md} {P : Program} {o : Oper} {a : Act} {w w' : World} {v : Value} {K : Act → World → Prop} {Q : Exit → Act → World → Prop} (hr : (execOp a.eval o).run P w = .ok (.value v) w') (h : K (a.put o.dst v) w') : opW m P o a w K Q := by
  cases m with
  | none => unfold opW Oper.wp; rw [hr]; exact h
  | some r => exact wpIn_val hr h
theorem opW_enter {m : Md} {P : Program} {o : Oper} {a : Act} {w w' : World} {f : FuncId} {args : Array Value} {K : Act → World → Prop} {Q : Exit → Act → World → Prop} (hr : (execOp a.eval o).run P w = .ok (.enter f args) w')
    (h : Calls P f args w' fun e w'' => ∃ v, e = .returned v ∧ K (a.put o.dst v) w'') : opW m P o a w K Q := by
  cases m with
  | none =>
    unfold opW Oper.wp
    rw [hr]
    refine h.mono ?_
    rintro e w'' ⟨v, rfl, hk⟩
    exact hk
  | some r => exact wpIn_enter hr (h.mono fun e w'' ⟨v, he, hk⟩ => by subst he; exact hk)

/-! ### From plain lists to lists in a round -/
def deferB (o : Oper) : Bool := match o.op with
  | .defer _ => true
  | _ => false
theorem deferB_spec {o : Oper} (h : deferB o = false) : ∀ c, o.op ≠ .defer c := fun c hc => by unfold deferB at h; rw [hc] at h; cases h
theorem op_over {P : Program} {r : Option Nat} {o : Oper} {a : Act} {w : World} {K : Act → World → Prop} {Q : Exit → Act → World → Prop} (hd : deferB o = false) (_hQ : ¬ LetsOut Q) (h : o.wp P a w K Q) : o.wpIn (fz r) 0 P a w K Q := by
  refine ⟨fun f _ => fz_fn r f, ?_⟩
  show o.uponIn (fz r) 0 P a K Q ((o.semAt r a.eval).run P w)
  rw [Oper.semAt_eq r a.eval o (deferB_spec hd)]
  unfold Oper.wp at h
  generalize (execOp a.eval o).run P w = x at h
  cases x with
  | ok n w' =>
    cases n <;> simp only [Oper.upon] at h <;> simp only [Oper.uponIn]
    all_goals first
      | exact h
      | exact ⟨fun h => (by cases h), (callsIn_wide (n := 0 - 1)).2 h⟩
      | (refine ⟨fun h => (by cases h), fun c cs _ => ?_⟩
         obtain ⟨v, w'', r1, s⟩ := h c cs
         exact ⟨v, w'', r1, stepsIn_wide.2 s⟩)
  | halt y w' => cases y <;> simp only [Oper.upon] at h <;> simp only [Oper.uponIn] <;> exact h
theorem any_over {P : Program} {r : Option Nat} {md : Region.Mode} {ops : Array Oper} {Q : Exit → Act → World → Prop} (hd : ∀ (i : Nat) (o : Oper), ops[i]? = some o → deferB o = false) (hQ : ¬ LetsOut Q) :
    ∀ (f : Nat) (l : Array Bool) (a : Act) (w : World), wpAny P md ops Q f l a w → wpAnyIn (fz r) 0 P md ops Q f l a w
  | 0, l, a, w, h => h
  | f + 1, l, a, w, h => by
    refine ⟨h.1, fun i hi => ?_⟩
    have h1 := h.2 i hi
    unfold wpOp at h1
    unfold wpOpIn
    split at h1
    · rename_i hn; rw [hn]; exact any_over hd hQ f _ a w h1
    · rename_i o ho
      rw [ho]
      simp only
      split at h1
      · rename_i hw
        rw [if_pos hw]
        rcases h1 with h1 | ⟨_, h1⟩
        · exact Oper.wpIn_mono (fun a w h => any_over hd hQ f _ a w h) (op_over (hd i o ho) hQ h1)
        · exact absurd h1 hQ
      · rename_i hw
        rw [if_neg hw]
        exact ⟨fun f _ => fz_fn r f, any_over hd hQ f _ _ w h1⟩

/-- Only off its end. -/
def Only (Q : Exit → Act → World → Prop) : Exit → Act → World → Prop
  | .normal, a, w => Q .normal a w
  | _, _, _ => False
theorem only_out (Q : Exit → Act → World → Prop) : ¬ LetsOut (Only Q) := fun ⟨_, _, h⟩ => h
theorem only_imp {Q : Exit → Act → World → Prop} (e : Exit) (a : Act) (w : World) (h : Only Q e a w) : Q e a w := by
  cases e <;> first | exact h | exact (h : False).elim

/-! ### Code -/
section
variable {m : Md} {P : Program} {Q Q' : Exit → Act → World → Prop} {a : Act} {w : World}
theorem cd_mono {c : Code} (hq : ∀ e a w, Q e a w → Q' e a w) (h : cdW m P c Q a w) : cdW m P c Q' a w := by
  cases m with
  | none => exact Code.wp_mono hq h
  | some r => exact Code.wpIn_mono hq h
theorem cd_skip (h : Q .normal a w) : cdW m P .skip Q a w := by
  cases m with
  | none => exact wp_skip h
  | some r => exact wpIn_skip h
theorem cd_exit {id : Nat} (h : Q (.exit id) a w) : cdW m P (.exit id) Q a w := by
  cases m with
  | none => exact wp_exit h
  | some r => exact wpIn_exit h
theorem cd_goto {id : Nat} (h : Q (.goto id) a w) : cdW m P (.goto id) Q a w := by
  cases m with
  | none => exact wp_goto h
  | some r => exact wpIn_goto h
theorem cd_ret (h : Q .ret a w) : cdW m P .ret Q a w := by
  cases m with
  | none => exact wp_ret h
  | some r => exact wpIn_ret h
theorem cd_seq {x y : Code} (h : cdW m P x (Exit.then (fun a w => cdW m P y Q a w) Q) a w) : cdW m P (.seq x y) Q a w := by
  cases m with
  | none => exact wp_seq h
  | some r => exact wpIn_seq h
theorem cd_block {id : Nat} {c : Code} (h : cdW m P c (Exit.inBlock id Q) a w) : cdW m P (.block id c) Q a w := by
  cases m with
  | none => exact wp_block h
  | some r => exact wpIn_block h
theorem cd_if {c : Operand} {x y : Code} {t : Bool} (hc : a.eval c = .bool t) (ht : t = true → cdW m P x Q a w) (hf : t = false → cdW m P y Q a w) : cdW m P (.cond c x y) Q a w := by
  cases m with
  | none => exact wp_cond_split hc ht hf
  | some r => exact wpIn_cond_split hc ht hf
theorem cd_region {id : Nat} {l : List Oper} (h : wpLst m P l.toArray Q l a w) : cdW m P (.region id l.toArray false) Q a w := by
  cases m with
  | none => exact wp_region_lit h
  | some r => exact wpIn_region_lit h
theorem cd_any {id : Nat} {ops : Array Oper} (hm : P.follows .mixedOrders = true) (hd : ∀ (i : Nat) (o : Oper), ops[i]? = some o → deferB o = false)
    (h : wpAny P .any ops (Only Q) ops.size (Array.replicate ops.size false) a { w with drawn := w.drawn + 1 }) : cdW m P (.region id ops true) Q a w := by
  cases m with
  | none => exact Code.wp_mono only_imp (wp_region_any hm h)
  | some r => exact Code.wpIn_mono only_imp (wpIn_region_any hm (any_over hd (only_out Q) _ _ _ _ h))
theorem cd_quiet {C : World → Prop} {id : Nat} {ops : Array Oper} (hm : P.follows .mixedOrders = true) (hd : ∀ (i : Nat) (o : Oper), ops[i]? = some o → deferB o = false) (hB : Region.lexB .any ops = true)
    (hC : C { w with drawn := w.drawn + 1 }) (h : wpQuiet P ops C (fun a' => ∀ w', C w' → Q .normal a' w') ops.toList a) : cdW m P (.region id ops true) Q a w := by
  refine cd_any hm hd ?_
  simp only [Region.lexB, Bool.and_eq_true] at hB
  refine wpAny_of_quiet (C := C) (Q := fun a' => ∀ w', C w' → Q .normal a' w') (Q' := Only Q) (fun a w' hw' (h : ∀ w', C w' → Q .normal a w') => (show Q .normal a w' from h w' hw')) _ _ _ _ hC ?_
  have := wpAnyQ_lex (C := C) (md := .any) hB.1 ops.toList 0 (Array.replicate ops.size false) a (by simp) (by simpa using hB.2) h
  simpa using this
/-- Rounds of a loop, one after the other. -/
def rounds (m : Md) (P : Program) (c : Code) (Q : Exit → Act → World → Prop) : Nat → Act → World → Prop
  | 0, _, _ => False
  | n + 1, a, w => cdW m P c (Exit.then (rounds m P c Q n) Q) a w
theorem rounds_none {c : Code} : ∀ n, rounds none P c Q n = Code.rounds P c Q n
  | 0 => rfl
  | n + 1 => by
    funext a w
    show c.wp P (Exit.then (rounds none P c Q n) Q) a w = c.wp P (Exit.then (Code.rounds P c Q n) Q) a w
    rw [rounds_none n]
theorem rounds_some {c : Code} {r : Option Nat} : ∀ n, rounds (some r) P c Q n = Code.roundsIn (fz r) 0 P c Q n
  | 0 => rfl
  | n + 1 => by
    funext a w
    show c.wpIn (fz r) 0 P (Exit.then (rounds (some r) P c Q n) Q) a w = c.wpIn (fz r) 0 P (Exit.then (Code.roundsIn (fz r) 0 P c Q n) Q) a w
    rw [rounds_some n]
theorem cd_rounds {c : Code} (n : Nat) (h : rounds m P c Q n a w) : cdW m P (.loop c) Q a w := by
  cases m with
  | none => rw [rounds_none] at h; exact wp_loop_rounds n h
  | some r => rw [rounds_some] at h; exact wpIn_loop_rounds n h
theorem cd_ghost {c : Code} (I : Nat → Act → World → Prop) (n₀ : Nat) (h₀ : I n₀ a w)
    (round : ∀ n a w, I n a w → cdW m P c (Exit.then (fun a' w' => ∃ n', n' < n ∧ I n' a' w') Q) a w) : cdW m P (.loop c) Q a w := by
  cases m with
  | none => exact wp_loop_ghost I n₀ h₀ round
  | some r =>
    refine wpIn_loop (fun a w => ∃ n, I n a w) (fun a w => leastOf (fun n => I n a w)) ⟨n₀, h₀⟩ ?_
    intro a w hI
    refine wpIn_mono (round _ a w (leastOf_spec hI).1) ?_
    intro e a' w' hq
    cases e with
    | normal =>
      obtain ⟨n', hlt, hI'⟩ := hq
      exact show (∃ n, I n a' w') ∧ leastOf (fun n => I n a' w') < leastOf (fun n => I n a w) from ⟨⟨n', hI'⟩, Nat.lt_of_le_of_lt ((leastOf_spec ⟨n', hI'⟩).2 n' hI') hlt⟩
    | exit id => exact hq
    | goto l => exact hq
    | ret => exact hq
    | panic ch => exact hq
    | outgrown => exact hq
end
end Go.Sx

namespace Go.Sx
open Go

abbrev Gd := Option (Nat × Bool)
abbrev Fr := List (Nat × FV × Gd)

def look (d : Nat) : Fr → Option (FV × Gd)
  | [] => none
  | (k, v, g) :: r => match Nat.beq d k with
    | true => some (v, g)
    | false => look d r

/-- What a frame says of the temporaries: the value; or the value if temporary t holds the Bool p. -/
def Knows (β : Nat → Bd) (fr : Fr) (a : Act) : Prop := ∀ d v g, look d fr = some (v, g) →
  match g with
  | none => a.tmps[d]? = some (v.den β)
  | some (t, p) => (a.tmps[t]? = some (.bool p) → a.tmps[d]? = some (v.den β)) ∧ (a.tmps[t]? ≠ some (.bool p) → a.tmps[d]? = some undef)

structure Cx where
  P : Program
  n : Nat
  φ : Heap
  w0 : World
  m : Nat
  β0 : Nat → Bd
  F : Nat → Prop
  fe : Md
  ds : List Deferred

structure Rep (X : Cx) (β : Nat → Bd) (fr : Fr) (σ : List Ch) (a : Act) (w : World) : Prop where
  defers : a.defers = X.ds
  size : a.tmps.size = X.n
  knows : Knows β fr a
  frwf : ∀ e ∈ fr, e.2.1.wf σ.length
  mem : Sat β σ X.φ w
  same : Same X.w0 w
  agree : ∀ i, i < X.m → β i = X.β0 i
  fits : X.m ≤ σ.length
  src : ∀ (l : Nat) (d : Ch), σ[l]? = some d → ∀ g, g ∈ d.rfoot (β l) → X.F g ∨ X.w0.heap.size ≤ g

structure WpC (X : Cx) (c : Code) (Q : Exit → Act → World → Prop) (fr : Fr) (σ : List Ch) : Prop where
  h : ∀ β a w, Rep X β fr σ a w → cdW X.fe X.P c Q a w
structure WpL (X : Cx) (all : List Oper) (Q : Exit → Act → World → Prop) (l : List Oper) (fr : Fr) (σ : List Ch) : Prop where
  h : ∀ β a w, Rep X β fr σ a w → wpLst X.fe X.P all.toArray Q l a w
structure WpQ (X : Cx) (K : Act → World → Prop) (fr : Fr) (σ : List Ch) : Prop where
  h : ∀ β a w, Rep X β fr σ a w → K a w

/-! ### Types -/
inductive Kd where
  | int (k : IntKind)
  | bool
  | str
  | struct (fs : List (Nat × Nat × Bool))
  | arr (n sz : Nat) (agg : Bool)
  | slice (e sz bytes : Nat)
  | ptr
  | mapi (q : IntKind) (z : Value)
  | fn
  | other

structure TI where
  size : Nat
  zv : Value
  agg : Bool
  kd : Kd
  flat : Option (List (Option IntKind)) := none

def kn : IntKind → Nat
  | .i8 => 0 | .i16 => 1 | .i32 => 2 | .i64 => 3 | .u8 => 4 | .u16 => 5 | .u32 => 6 | .u64 => 7
theorem kn_eq {k k' : IntKind} (h : Nat.beq (kn k) (kn k') = true) : k = k' := by
  cases k <;> cases k' <;> first | rfl | (exact absurd h (by decide))

/-- Two lists of cells of these kinds, compared. -/
def eqL : List (Option IntKind) → List SV → List SV → Option Bool
  | [], [], [] => some true
  | some k :: ks, .int k1 a :: xs, .int k2 b :: ys => match Nat.beq (kn k) (kn k1), Nat.beq (kn k) (kn k2), eqL ks xs ys with
    | true, true, some r => some ((a == b) && r)
    | _, _, _ => none
  | none :: ks, .bool a :: xs, .bool b :: ys => match eqL ks xs ys with
    | some r => some ((a == b) && r)
    | none => none
  | _, _, _ => none

def FlatEq (P : Program) (t : TypeId) (ks : List (Option IntKind)) : Prop :=
  P.eqGuardType P.depth t = false ∧ ∀ (w : World) (β : Nat → Bd) (xs ys : List SV) (b : Bool), eqL ks xs ys = some b →
    (Op.equalIn 10000 t (.agg (xs.map (SV.den β)).toArray) (.agg (ys.map (SV.den β)).toArray)).run P w = .ok b w

def isRowD : TypeDesc → Bool
  | .struct _ | .array _ _ => true
  | _ => false
def fsOf (P : Program) (fs : List Field) : Option (List (Nat × Nat × Bool)) :=
  fs.mapM fun f => (P.info? f.type).bind fun i => (P.underlying f.type).map fun d => (f.offset, i.size, isRowD d)
def kdOf (P : Program) (t : TypeId) : Kd := match P.underlying t with
  | some (.int k) => .int k
  | some .bool => .bool
  | some .string => .str
  | some (.struct fs) => match fsOf P fs.toList with
    | some l => .struct l
    | none => .other
  | some (.array n e) => match P.info? e, P.underlying e with
    | some i, some d => .arr n i.size (isRowD d)
    | _, _ => .other
  | some (.slice e) => match P.info? e with
    | some i => .slice e i.size i.bytes
    | none => .other
  | some (.pointer _) => .ptr
  | some (.map k e) => match P.underlying k, (P.info? e).bind (·.zero) with
    | some (.int q), some z => .mapi q z
    | _, _ => .other
  | some (.func ..) => .fn
  | _ => .other

structure TIok (P : Program) (t : TypeId) (i : TI) : Prop where
  size : (P.info? t).map (·.size) = some i.size
  zero : (P.info? t).bind (·.zero) = some i.zv
  agg : (P.underlying t).map isRowD = some i.agg
  kd : kdOf P t = i.kd
  flat : ∀ ks, i.flat = some ks → FlatEq P t ks

abbrev TT := List (Nat × TI)
def tlook (d : Nat) : TT → Option TI
  | [] => none
  | e :: r => match Nat.beq d e.1 with
    | true => some e.2
    | false => tlook d r
def TTok (P : Program) : TT → Prop
  | [] => P.follows .mixedOrders = true
  | e :: r => TIok P e.1 e.2 ∧ TTok P r

theorem TTok.mo {P : Program} : ∀ {tt : TT}, TTok P tt → P.follows .mixedOrders = true
  | [], h => h
  | _ :: r, h => TTok.mo (tt := r) h.2
theorem tlook_ok {P : Program} : ∀ {tt : TT}, TTok P tt → ∀ {t : Nat} {i : TI}, tlook t tt = some i → TIok P t i
  | [], _, _, _, h => by simp [tlook] at h
  | e :: r, ⟨h1, h2⟩, t, i, h => by
    unfold tlook at h
    split at h
    · rename_i he
      cases h
      have : t = e.1 := Nat.eq_of_beq_eq_true he
      rw [this]; exact h1
    · exact tlook_ok h2 h

/-! ### Values of constants -/
def ofSV : Value → Option SV
  | .int k n => some (.int k n)
  | .bool b => some (.bool b)
  | .string s => some (.str s.data.toList)
  | .agg _ => none
  | .tuple _ => none
  | v => some (.raw v)
def ofSVs : List Value → Option (List SV)
  | [] => some []
  | v :: l => match ofSV v with
    | none => none
    | some x => match ofSVs l with
      | none => none
      | some xs => some (x :: xs)
def ofTV : Value → Option TV
  | .agg cs => match ofSVs cs.toList with
    | none => none
    | some l => some (.agg l)
  | .int k n => some (.s (.int k n))
  | .bool b => some (.s (.bool b))
  | .string s => some (.s (.str s.data.toList))
  | .tuple _ => none
  | v => some (.s (.raw v))

theorem ofSV_den {β : Nat → Bd} {v : Value} {x : SV} (h : ofSV v = some x) : x.den β = v := by
  cases v <;> simp [ofSV] at h <;> subst h <;> rfl
theorem ofSV_wf {m : Nat} {v : Value} {x : SV} (h : ofSV v = some x) : x.wf m := by
  cases v <;> simp [ofSV] at h <;> subst h <;> first | rfl | trivial
theorem ofSVs_den {β : Nat → Bd} : ∀ {l : List Value} {xs : List SV}, ofSVs l = some xs → xs.map (SV.den β) = l
  | [], xs, h => by simp [ofSVs] at h; subst h; rfl
  | v :: l, xs, h => by
    unfold ofSVs at h
    split at h
    · cases h
    · rename_i x hx
      split at h
      · cases h
      · rename_i ys hys
        cases h
        simp [ofSV_den hx, ofSVs_den hys]
theorem ofSVs_wf {m : Nat} : ∀ {l : List Value} {xs : List SV}, ofSVs l = some xs → ∀ x ∈ xs, x.wf m
  | [], xs, h => by simp [ofSVs] at h; subst h; simp
  | v :: l, xs, h => by
    unfold ofSVs at h
    split at h
    · cases h
    · rename_i x hx
      split at h
      · cases h
      · rename_i ys hys
        cases h
        intro y hy
        rcases List.mem_cons.1 hy with rfl | hy
        · exact ofSV_wf hx
        · exact ofSVs_wf hys y hy
theorem ofTV_den {β : Nat → Bd} {v : Value} {x : TV} (h : ofTV v = some x) : x.den β = v := by
  cases v <;> simp [ofTV] at h <;> try (subst h; rfl)
  rename_i cs
  split at h
  · cases h
  · rename_i l hl
    cases h
    simp only [TV.den, ofSVs_den hl]
theorem ofTV_wf {m : Nat} {v : Value} {x : TV} (h : ofTV v = some x) : x.wf m := by
  cases v <;> simp [ofTV] at h <;> try (subst h; first | rfl | trivial)
  rename_i cs
  split at h
  · cases h
  · rename_i l hl
    cases h
    exact ofSVs_wf hl

/-! ### Operands -/
def gmatch : Gd → Nat → Bool → Bool
  | some (t, p), t', p' => match Nat.beq t t' with
    | true => (match p, p' with | true, true => true | false, false => true | _, _ => false)
    | false => false
  | none, _, _ => false

theorem gmatch_eq {g : Gd} {t : Nat} {p : Bool} (h : gmatch g t p = true) : g = some (t, p) := by
  unfold gmatch at h
  split at h
  · split at h
    · rename_i he
      have := Nat.eq_of_beq_eq_true he
      subst this
      split at h <;> first | rfl | cases h
    · cases h
  · cases h

def opd (fr : Fr) (g : Gd) : Operand → Option TV
  | .tmp t => match look t fr with
    | some (.t v, none) => some v
    | some (.t v, some (t', p')) => match gmatch g t' p' with
      | true => some v
      | false => none
    | _ => none
  | .const v => ofTV v
  | .func f => some (.clo (.func f) [] [])
  | .global _ => none

/-- The guard under which an operation runs holds. -/
def Under (g : Gd) (a : Act) : Prop := match g with
  | none => True
  | some (t, p) => a.tmps[t]? = some (.bool p)

theorem eval_tmp {a : Act} {t : Nat} {v : Value} (h : a.tmps[t]? = some v) : a.eval (.tmp t) = v := by
  simp [Act.eval, Array.getD_eq_getD_getElem?, h]

theorem look_mem {d : Nat} {v : FV} {g : Gd} : ∀ {fr : Fr}, look d fr = some (v, g) → ∃ e ∈ fr, e.2.1 = v ∧ e.2.2 = g
  | [], h => by simp [look] at h
  | (k, u, q) :: r, h => by
    unfold look at h
    split at h
    · cases h; exact ⟨(k, v, g), by simp, rfl, rfl⟩
    · obtain ⟨e', he', h'⟩ := look_mem h
      exact ⟨e', List.mem_cons_of_mem _ he', h'⟩

theorem opd_sound {β : Nat → Bd} {fr : Fr} {g : Gd} {x : Operand} {v : TV} {a : Act} (hk : Knows β fr a) (hu : Under g a) (h : opd fr g x = some v) : a.eval x = v.den β := by
  cases x with
  | tmp t =>
    simp only [opd] at h
    split at h
    · rename_i v' hl
      cases h
      exact eval_tmp (hk t _ _ hl)
    · rename_i v' t' p' hl
      split at h
      · rename_i hg
        cases h
        have := gmatch_eq hg
        subst this
        exact eval_tmp ((hk t _ _ hl).1 hu)
      · cases h
    · cases h
  | const c => simp only [opd] at h; exact (ofTV_den h).symm
  | func f => simp [opd] at h; subst h; rfl
  | global g => simp [opd] at h

theorem opd_wf {fr : Fr} {m : Nat} {g : Gd} {x : Operand} {v : TV} (hw : ∀ e ∈ fr, e.2.1.wf m) (h : opd fr g x = some v) : v.wf m := by
  cases x with
  | tmp t =>
    simp only [opd] at h
    split at h
    · rename_i v' hl
      cases h
      obtain ⟨e, he, h1, _⟩ := look_mem hl
      have := hw e he
      rw [h1] at this; exact this
    · rename_i v' t' p' hl
      split at h
      · cases h
        obtain ⟨e, he, h1, _⟩ := look_mem hl
        have := hw e he
        rw [h1] at this; exact this
      · cases h
    · cases h
  | const c => simp only [opd] at h; exact ofTV_wf h
  | func f => simp [opd] at h; subst h; simp [TV.wf]
  | global g => simp [opd] at h

end Go.Sx

namespace Go.Sx
open Go

inductive Step where
  | val (v : FV)
  | new (e : Nat) (cs : List SV)
  | upd (i : Nat) (e : Nat) (cs : List SV)
  | stop

def forceL {α β : Type} : List α → (List α → β) → β
  | [], k => k []
  | x :: l, k => forceL l (fun l' => k (x :: l'))
theorem forceL_eq {α β : Type} : ∀ (l : List α) (k : List α → β), forceL l k = k l
  | [], _ => rfl
  | x :: l, k => by simp [forceL, forceL_eq l]

def nz : Int → Bool
  | .ofNat 0 => false
  | .ofNat (_ + 1) => true
  | .negSucc _ => true
theorem nz_ne {b : Int} (h : nz b = true) : b ≠ 0 := by
  intro e; subst e; exact absurd h (by decide)

def binI (op : BinOp) (k : IntKind) (a b : Int) : Option SV :=
  match op with
  | .add => some (.int k (k.wrap (a + b)))
  | .sub => some (.int k (k.wrap (a - b)))
  | .mul => some (.int k (k.wrap (a * b)))
  | .and => some (.int k (bits .and k a b))
  | .or => some (.int k (bits .or k a b))
  | .xor => some (.int k (bits .xor k a b))
  | .andNot => some (.int k (bits .andNot k a b))
  | .eql => some (.bool (a == b))
  | .neq => some (.bool (a != b))
  | .lss => some (.bool (decide (a < b)))
  | .leq => some (.bool (decide (a ≤ b)))
  | .gtr => some (.bool (decide (a > b)))
  | .geq => some (.bool (decide (a ≥ b)))
  | .quo => match nz b with
    | true => some (.int k (k.wrap (a.tdiv b)))
    | false => none
  | .rem => match nz b with
    | true => some (.int k (a.tmod b))
    | false => none
  | .shl => none
  | .shr => none

def shI (op : BinOp) (k : IntKind) (a b : Int) : Option SV :=
  match op, b with
  | .shl, .ofNat m => some (.int k (k.wrap (a * 2 ^ (min m k.bits))))
  | .shr, .ofNat m => some (.int k (a.fdiv (2 ^ (min m k.bits))))
  | _, _ => none

theorem binI_sound {P : Program} {w : World} {β : Nat → Bd} {op : BinOp} {k : IntKind} {a b : Int} {v : SV} {T : TypeId} (h : binI op k a b = some v) :
    (binOp op T (.int k a) (.int k b)).run P w = .ok (v.den β) w := by
  cases op <;> simp only [binI] at h <;> first
    | (cases h; done)
    | (cases h; simp [binOp, Op.intArith, Op.intCmp, intBits_and, intBits_or, intBits_xor, intBits_andNot, SV.den]; done)
    | (split at h
       · rename_i hz
         cases h
         have := nz_ne hz
         simp [binOp, Op.intDiv, this, SV.den]
       · cases h)

theorem shI_sound {P : Program} {w : World} {β : Nat → Bd} {op : BinOp} {k k' : IntKind} {a b : Int} {v : SV} {T : TypeId} (h : shI op k a b = some v) :
    (binOp op T (.int k a) (.int k' b)).run P w = .ok (v.den β) w := by
  unfold shI at h
  split at h
  · cases h
    rename_i m
    simp only [binOp, Op.shift]
    have : ¬ (Int.ofNat m < 0) := by exact Int.not_lt.2 (Int.natCast_nonneg m)
    rw [if_neg this]; rfl
  · cases h
    rename_i m
    simp only [binOp, Op.shift]
    have : ¬ (Int.ofNat m < 0) := by exact Int.not_lt.2 (Int.natCast_nonneg m)
    rw [if_neg this]; rfl
  · cases h

theorem eqGuard_int {P : Program} {w : World} {op : BinOp} {T : TypeId} {x y : Operand} {k k' : IntKind} {a b : Int} :
    (eqGuard op T x y (.int k a) (.int k' b)).run P w = .ok () w := by
  cases op <;> simp [eqGuard]
theorem eqGuard_bool {P : Program} {w : World} {op : BinOp} {T : TypeId} {x y : Operand} {a b : Bool} :
    (eqGuard op T x y (.bool a) (.bool b)).run P w = .ok () w := by
  cases op <;> simp [eqGuard]

/-- The cells of a value. -/
def TV.cells : TV → Option (List SV)
  | .s v => some [v]
  | .agg l => some l
  | .clo f [] [] => some [.raw (.func f #[] #[])]
  | .clo _ _ _ => none
  | .bnd _ _ => none

theorem cells_one {v : Value} (h : v.oneCell' = true) : v.cells = #[v] := by
  cases v <;> first | rfl | (simp [Value.oneCell'] at h; done)
theorem TV.cells_den {β : Nat → Bd} {m : Nat} {v : TV} {l : List SV} (hw : v.wf m) (h : v.cells = some l) : (v.den β).cells = (l.map (SV.den β)).toArray := by
  unfold TV.cells at h
  split at h <;> cases h
  · simp only [TV.den, TV.wf] at *
    rw [cells_one (SV.oneCell (β := β) hw)]; rfl
  · rfl
  · rfl
theorem TV.cells_wf {m : Nat} {v : TV} {l : List SV} (hw : v.wf m) (h : v.cells = some l) : ∀ x ∈ l, x.wf m := by
  unfold TV.cells at h
  split at h <;> cases h
  · simpa [TV.wf] using hw
  · exact hw
  · intro x hx
    simp at hx; subst hx
    first | trivial | rfl | simp [SV.wf]

def cellsV : Value → Option (List SV)
  | .agg cs => ofSVs cs.toList
  | v => match ofSV v with
    | some x => some [x]
    | none => none
theorem cellsV_den {β : Nat → Bd} {v : Value} {l : List SV} (h : cellsV v = some l) : v.cells = (l.map (SV.den β)).toArray := by
  unfold cellsV at h
  split at h
  · rename_i cs
    simp [Value.cells, ofSVs_den h]
  · rename_i hna
    split at h
    · rename_i x hx
      cases h
      have := ofSV_den (β := β) hx
      simp only [List.map_cons, List.map_nil, this]
      cases v <;> first | rfl | (exact absurd rfl (hna _))
    · cases h
theorem cellsV_wf {m : Nat} {v : Value} {l : List SV} (h : cellsV v = some l) : ∀ x ∈ l, x.wf m := by
  unfold cellsV at h
  split at h
  · exact ofSVs_wf h
  · split at h
    · rename_i x hx
      cases h
      simpa using ofSV_wf hx
    · cases h

/-- l with vs from place i on. -/
def setAll : List SV → Nat → List SV → List SV
  | l, 0, vs => over l vs
  | [], _ + 1, _ => []
  | x :: l, i + 1, vs => x :: setAll l i vs
  where
  over : List SV → List SV → List SV
    | l, [] => l
    | [], _ => []
    | _ :: l, v :: vs => v :: over l vs

theorem over_map (f : SV → Value) : ∀ (l vs : List SV), vs.length ≤ l.length → (setAll.over l vs).map f = vs.map f ++ (l.map f).drop vs.length
  | l, [], _ => by simp [setAll.over]
  | [], v :: vs, h => by simp at h
  | x :: l, v :: vs, h => by simp [setAll.over, over_map f l vs (by simpa using h)]
theorem setAll_map (f : SV → Value) : ∀ (l : List SV) (i : Nat) (vs : List SV), i + vs.length ≤ l.length →
    (setAll l i vs).map f = (l.map f).take i ++ vs.map f ++ (l.map f).drop (i + vs.length)
  | l, 0, vs, h => by simp [setAll, over_map f l vs (by simpa using h)]
  | [], i + 1, vs, h => by simp at h
  | x :: l, i + 1, vs, h => by
    simp only [setAll, List.map_cons, List.take_succ_cons, List.cons_append, setAll_map f l i vs (by simp at h; omega)]
    rw [show i + 1 + vs.length = (i + vs.length) + 1 by omega, List.drop_succ_cons]
theorem over_mem {x : SV} : ∀ {l vs : List SV}, x ∈ setAll.over l vs → x ∈ l ∨ x ∈ vs
  | l, [], h => by simp [setAll.over] at h; exact .inl h
  | [], v :: vs, h => by simp [setAll.over] at h
  | y :: l, v :: vs, h => by
    simp only [setAll.over, List.mem_cons] at h
    rcases h with h | h
    · exact .inr (by simp [h])
    · rcases over_mem h with h | h
      · exact .inl (by simp [h])
      · exact .inr (by simp [h])
theorem setAll_mem {x : SV} : ∀ {l : List SV} {i : Nat} {vs : List SV}, x ∈ setAll l i vs → x ∈ l ∨ x ∈ vs
  | l, 0, vs, h => by simp only [setAll] at h; exact over_mem h
  | [], i + 1, vs, h => by simp [setAll] at h
  | y :: l, i + 1, vs, h => by
    simp only [setAll, List.mem_cons] at h
    rcases h with h | h
    · exact .inl (by simp [h])
    · rcases setAll_mem h with h | h
      · exact .inl (by simp [h])
      · exact .inr h
theorem over_length : ∀ (l vs : List SV), vs.length ≤ l.length → (setAll.over l vs).length = l.length
  | l, [], _ => by simp [setAll.over]
  | [], v :: vs, h => by simp at h
  | x :: l, v :: vs, h => by simp [setAll.over, over_length l vs (by simpa using h)]
theorem setAll_length : ∀ (l : List SV) (i : Nat) (vs : List SV), i + vs.length ≤ l.length → (setAll l i vs).length = l.length
  | l, 0, vs, h => by simp [setAll, over_length l vs (by simpa using h)]
  | [], i + 1, vs, h => by simp at h
  | x :: l, i + 1, vs, h => by simp [setAll, setAll_length l i vs (by simp at h; omega)]

/-! ### Loads and stores of a known block -/
theorem cell_blk {w : World} {b e i : Nat} {cs : List Value} (h : w.heap[b]? = some (.cells cs.toArray e (0, 0))) : w.cell? ⟨b, i, none⟩ = cs[i]? := by
  simp [World.cell?, h]

theorem isAgg_run {P : Program} {t : TypeId} {i : TI} (h : TIok P t i) (w : World) : (isAgg t).run P w = .ok i.agg w := by
  have ha := h.agg
  cases hd : P.underlying t with
  | none => simp [hd] at ha
  | some d =>
    simp only [hd, Option.map_some, Option.some.injEq] at ha
    simp only [isAgg, Sem.run_bind, run_underlying hd, Result.andThen_ok]
    cases d <;> simp only [Sem.run_pure] <;> rw [← ha] <;> rfl

theorem sizeOf_run {P : Program} {t : TypeId} {i : TI} (h : TIok P t i) (w : World) : (sizeOf t).run P w = .ok i.size w := by
  have hs := h.size
  cases hi : P.info? t with
  | none => simp [hi] at hs
  | some x => simp [hi] at hs; simp [sizeOf, typeInfo, hi, hs]

theorem zero_run {P : Program} {t : TypeId} {i : TI} (h : TIok P t i) (w : World) : (zeroValue t).run P w = .ok i.zv w := by
  have hs := h.zero
  cases hi : P.info? t with
  | none => simp [hi] at hs
  | some x => simp [hi] at hs; simp [zeroValue, typeInfo, hi, hs]

theorem load_agg_run {P : Program} {t : TypeId} {i : TI} (h : TIok P t i) (ha : i.agg = true) {w : World} {b e off : Nat} {cs : List Value}
    (hb : w.heap[b]? = some (.cells cs.toArray e (0, 0))) (hl : off + i.size ≤ cs.length) :
    (Instr.loadAt t (.pointer (some ⟨b, off, none⟩))).run P w = .ok (.agg ((cs.drop off).take i.size).toArray) w := by
  have hlc := run_loadCells_list (P := P) w ⟨b, off, none⟩ ((cs.drop off).take i.size) (fun j v hv => by
    have hj : j < i.size := by
      rcases Nat.lt_or_ge j i.size with h' | h'
      · exact h'
      · rw [List.getElem?_eq_none (by simp; omega)] at hv; cases hv
    have : (Addr.mk b off none).add j = ⟨b, off + j, none⟩ := by
      unfold Addr.add; split
      · rename_i h0; subst h0; rfl
      · rfl
    rw [this, cell_blk hb]
    rw [List.getElem?_take_of_lt hj, List.getElem?_drop] at hv
    exact hv)
  have hlen : ((cs.drop off).take i.size).length = i.size := by simp; omega
  rw [hlen] at hlc
  simp [Instr.loadAt, Instr.sureAddr, loadVar, isAgg_run h, ha, sizeOf_run h, hlc]

theorem load_one_run {P : Program} {t : TypeId} {i : TI} (h : TIok P t i) (ha : i.agg = false) {w : World} {b e off : Nat} {cs : List Value} {v : Value}
    (hb : w.heap[b]? = some (.cells cs.toArray e (0, 0))) (hv : cs[off]? = some v) :
    (Instr.loadAt t (.pointer (some ⟨b, off, none⟩))).run P w = .ok v w := by
  simp [Instr.loadAt, Instr.sureAddr, loadVar, isAgg_run h, ha, cell_blk hb, hv]

end Go.Sx

namespace Go.Sx
open Go

theorem store_run {P : Program} {t : TypeId} {i : TI} (h : TIok P t i) {w : World} {b e off : Nat} {cs : List Value} {v : Value}
    (hb : w.heap[b]? = some (.cells cs.toArray e (0, 0))) (hs : v.cells.size = i.size) (hl : off + v.cells.size ≤ cs.length) (h1 : ∀ x ∈ v.cells.toList, x.oneCell' = true) :
    (Instr.storeAt t (.pointer (some ⟨b, off, none⟩)) v).run P w =
      .ok () (w.setRow b (cs.take off ++ v.cells.toList ++ cs.drop (off + v.cells.size)).toArray) := by
  have := run_storeCells_at P b off e v.cells.toList 0 cs.toArray w hb (by simpa using hl) h1
  simp only [Nat.add_zero, Array.length_toList] at this
  simp [Instr.storeAt, Instr.sureAddr, storeVar, sizeOf_run h, hs]
  simpa [hs] using this

/-- One chunk changes, in place. -/
theorem Sat.change {β : Nat → Bd} {σ : List Ch} {φ : Heap} {w w' : World} (h : Sat β σ φ w) {i : Nat} {c c' : Ch} (hi : σ[i]? = some c)
    (hf : c'.foot (β i) = c.foot (β i)) (hrf : ∀ g, g ∈ c'.rfoot (β i) → g ∈ c.rfoot (β i)) (hwf : c'.wf σ.length) (hs : c'.sat β (β i) w') (hk : ∀ g, g ∉ c.foot (β i) → w'.heap[g]? = w.heap[g]?) : Sat β (σ.set i c') φ w' := by
  have hlt := (List.getElem?_eq_some_iff.1 hi).1
  have split : ∀ (j : Nat) (d : Ch), (σ.set i c')[j]? = some d → (j = i ∧ d = c') ∨ (j ≠ i ∧ σ[j]? = some d) := by
    intro j d hd
    by_cases hij : i = j
    · subst hij; rw [List.getElem?_set_self hlt] at hd; exact .inl ⟨rfl, (Option.some.inj hd).symm⟩
    · rw [List.getElem?_set_ne hij] at hd; exact .inr ⟨fun e => hij e.symm, hd⟩
  refine ⟨?_, ?_, ?_, ?_, ?_⟩
  · intro j k d e hj hk' hjk g hg
    rcases split j d hj with ⟨rfl, rfl⟩ | ⟨hj1, hj2⟩ <;> rcases split k e hk' with ⟨rfl, rfl⟩ | ⟨hk1, hk2⟩
    · exact absurd rfl hjk
    · rw [hf] at hg; exact h.disj _ k c e hi hk2 hjk g hg
    · exact fun hg' => h.disj j _ d c hj2 hi hjk g hg (hrf g hg')
    · exact h.disj j k d e hj2 hk2 hjk g hg
  · intro j d hj g hg
    rcases split j d hj with ⟨rfl, rfl⟩ | ⟨hj1, hj2⟩
    · rw [hf] at hg; exact h.off _ c hi g hg
    · exact h.off j d hj2 g hg
  · intro j d hj
    rcases split j d hj with ⟨rfl, rfl⟩ | ⟨hj1, hj2⟩
    · exact hs
    · exact Ch.sat_keep (h.sat j d hj2) fun g hg => hk g fun hg' => h.disj i j c d hi hj2 (Ne.symm hj1) g hg' hg
  · intro p hp
    rw [hk p.1 fun hg' => h.off i c hi p.1 hg' (List.mem_map.2 ⟨p, hp, rfl⟩)]
    exact h.frame p hp
  · intro d hd
    rw [List.length_set]
    rcases List.mem_or_eq_of_mem_set hd with hd | rfl
    · exact h.wf d hd
    · exact hwf

theorem Same.setRow (w : World) (g : Nat) (cs : Array Value) : Same w (w.setRow g cs) := ⟨rfl, rfl, rfl, by simp⟩
theorem Same.alloc (w : World) (o : Obj) : Same w (w.alloc o) := ⟨rfl, rfl, rfl, by simp⟩
theorem Same.drew (w : World) : Same w w.drew := ⟨rfl, rfl, rfl, Nat.le_refl _⟩

/-! ### The step -/
def opdF (fr : Fr) (g : Gd) : Operand → Option FV
  | .tmp t => match look t fr with
    | some (v, none) => some v
    | some (v, some (t', p')) => match gmatch g t' p' with
      | true => some v
      | false => none
    | none => none
  | x => match opd fr g x with
    | some v => some (.t v)
    | none => none

theorem opdF_sound {β : Nat → Bd} {fr : Fr} {g : Gd} {x : Operand} {v : FV} {a : Act} (hk : Knows β fr a) (hu : Under g a) (h : opdF fr g x = some v) : a.eval x = v.den β := by
  cases x with
  | tmp t =>
    simp only [opdF] at h
    split at h
    · rename_i v' hl; cases h; exact eval_tmp (hk t _ _ hl)
    · rename_i v' t' p' hl
      split at h
      · rename_i hg; cases h
        have := gmatch_eq hg; subst this
        exact eval_tmp ((hk t _ _ hl).1 hu)
      · cases h
    · cases h
  | const c => simp only [opdF] at h; split at h <;> cases h; rename_i hv; exact opd_sound (x := .const c) hk hu hv
  | func f => simp only [opdF] at h; split at h <;> cases h; rename_i hv; exact opd_sound (x := .func f) hk hu hv
  | global q => simp only [opdF] at h; split at h <;> cases h; rename_i hv; exact opd_sound (x := .global q) hk hu hv

theorem opdF_wf {fr : Fr} {m : Nat} {g : Gd} {x : Operand} {v : FV} (hw : ∀ e ∈ fr, e.2.1.wf m) (h : opdF fr g x = some v) : v.wf m := by
  cases x with
  | tmp t =>
    simp only [opdF] at h
    split at h
    · rename_i v' hl; cases h
      obtain ⟨e, he, h1, _⟩ := look_mem hl
      have := hw e he; rw [h1] at this; exact this
    · rename_i v' t' p' hl
      split at h
      · cases h
        obtain ⟨e, he, h1, _⟩ := look_mem hl
        have := hw e he; rw [h1] at this; exact this
      · cases h
    · cases h
  | const c => simp only [opdF] at h; split at h <;> cases h; rename_i hv; exact opd_wf (x := .const c) hw hv
  | func f => simp only [opdF] at h; split at h <;> cases h; rename_i hv; exact opd_wf (x := .func f) hw hv
  | global q => simp only [opdF] at h; split at h <;> cases h; rename_i hv; exact opd_wf (x := .global q) hw hv

def pickv (bc : Bool) : TV → TV → Option TV
  | .s (.bool x), .s (.bool y) => some (.s (.bool (cond bc x y)))
  | .s (.int k x), .s (.int k' y) => match Nat.beq (kn k) (kn k') with
    | true => some (.s (.int k (cond bc x y)))
    | false => none
  | _, _ => none

theorem pickv_sound {β : Nat → Bd} {bc : Bool} {x y v : TV} (h : pickv bc x y = some v) : v.den β = if bc then x.den β else y.den β := by
  unfold pickv at h
  split at h
  · cases h; cases bc <;> rfl
  · split at h
    · rename_i hk
      have := kn_eq hk; subst this
      cases h; cases bc <;> rfl
    · cases h
  · cases h
theorem pickv_wf {m : Nat} {bc : Bool} {x y v : TV} (h : pickv bc x y = some v) : v.wf m := by
  unfold pickv at h
  split at h
  · cases h; trivial
  · split at h <;> cases h; trivial
  · cases h

/-- The guard that pick's own operand c lays upon the chosen side. -/
def pickGd (c : Operand) (p : Bool) : Gd := match c with
  | .tmp t => some (t, p)
  | _ => none

/-- An operand of pick: under the operation's guard, or under pick's own. -/
def opdP (fr : Fr) (g : Gd) (c : Operand) (p : Bool) (x : Operand) : Option TV :=
  match opd fr g x with
  | some v => some v
  | none => opd fr (pickGd c p) x

def evPick (fr : Fr) (g : Gd) (c x y : Operand) : Step :=
  match opd fr g c with
  | some (.s (.bool b)) => match opdP fr g c true x, opdP fr g c false y with
    | some u, some v => match pickv b u v with
      | some r => .val (.t r)
      | none => .stop
    | _, _ => .stop
  | _ => .stop

def evLoad (tt : TT) (σ : List Ch) (t : Nat) : TV → Step
  | .s (.loc i off) => match σ[i]? with
    | some (.blk _ cs) => match tlook t tt with
      | some ti => match ti.agg with
        | true => match Nat.ble (off + ti.size) cs.length with
          | true => forceL ((cs.drop off).take ti.size) fun l => .val (.t (.agg l))
          | false => .stop
        | false => match cs[off]? with
          | some v => .val (.t (.s v))
          | none => .stop
      | none => .stop
    | _ => .stop
  | _ => .stop

def evStore (tt : TT) (σ : List Ch) (t : Nat) (x y : TV) : Step :=
  match x, y.cells with
  | .s (.loc i off), some vs => match σ[i]? with
    | some (.blk e cs) => match tlook t tt with
      | some ti => match Nat.beq vs.length ti.size, Nat.ble (off + vs.length) cs.length with
        | true, true => forceL (setAll cs off vs) fun l => .upd i e l
        | _, _ => .stop
      | none => .stop
    | _ => .stop
  | _, _ => .stop

theorem evLoad_sound {P : Program} {tt : TT} (htt : TTok P tt) {β : Nat → Bd} {σ : List Ch} {φ : Heap} {w : World} (hm : Sat β σ φ w) {t : Nat} {x : TV} {v : FV} (h : evLoad tt σ t x = .val v) :
    (Instr.loadAt t (x.den β)).run P w = .ok (v.den β) w ∧ v.wf σ.length := by
  unfold evLoad at h
  split at h
  · rename_i i off
    split at h
    · rename_i e cs hc
      have hs := hm.sat i _ hc
      have hwf := hm.wf _ (List.mem_of_getElem? hc)
      split at h
      · rename_i ti hti
        have hok := tlook_ok htt hti
        split at h
        · rename_i ha
          split at h
          · rename_i hle
            rw [forceL_eq] at h
            cases h
            have hle' : off + ti.size ≤ cs.length := Nat.le_of_ble_eq_true hle
            refine ⟨?_, fun y hy => hwf y (List.mem_of_mem_drop (List.mem_of_mem_take hy))⟩
            have := load_agg_run (P := P) hok ha (w := w) (b := (β i).g) (e := e) (off := off) (cs := cs.map (SV.den β)) hs.2 (by simpa using hle')
            simpa [TV.den, SV.den, FV.den, List.map_drop, List.map_take, hs.1] using this
          · cases h
        · rename_i ha
          split at h
          · rename_i u hu
            cases h
            refine ⟨?_, hwf u (List.mem_of_getElem? hu)⟩
            have := load_one_run (P := P) hok ha (w := w) (b := (β i).g) (e := e) (off := off) (cs := cs.map (SV.den β)) (v := u.den β) hs.2 (by simp [hu])
            simpa [TV.den, SV.den, FV.den, hs.1] using this
          · cases h
      · cases h
    · cases h
  · cases h

theorem evStore_sound {P : Program} {tt : TT} (htt : TTok P tt) {β : Nat → Bd} {σ : List Ch} {φ : Heap} {w : World} (hm : Sat β σ φ w) {t : Nat} {x y : TV} {i e : Nat} {l : List SV}
    (hy : y.wf σ.length) (h : evStore tt σ t x y = .upd i e l) :
    ∃ w', (Instr.storeAt t (x.den β) (y.den β)).run P w = .ok () w' ∧ Sat β (σ.set i (.blk e l)) φ w' ∧ Same w w' := by
  unfold evStore at h
  split at h
  · rename_i i' off vs hvs
    split at h
    · rename_i e' cs hc
      have hs := hm.sat i' _ hc
      have hwf := hm.wf _ (List.mem_of_getElem? hc)
      split at h
      · rename_i ti hti
        have hok := tlook_ok htt hti
        split at h
        · rename_i hb hle
          rw [forceL_eq] at h
          cases h
          have hle' : off + vs.length ≤ cs.length := Nat.le_of_ble_eq_true hle
          have hb' := Nat.eq_of_beq_eq_true hb
          have hcd := TV.cells_den (β := β) hy hvs
          have hcw := TV.cells_wf hy hvs
          have hr := store_run (P := P) hok (w := w) (b := (β i).g) (e := e) (off := off) (cs := cs.map (SV.den β)) (v := y.den β) hs.2 (by rw [hcd]; simpa using hb')
            (by rw [hcd]; simpa using hle') (by rw [hcd]; intro u hu; simp at hu; obtain ⟨q, hq, rfl⟩ := hu; exact SV.oneCell (hcw q hq))
          have hpt : TV.den β (.s (.loc i off)) = .pointer (some ⟨(β i).g, off, none⟩) := by simp [TV.den, SV.den, hs.1]
          refine ⟨_, by rw [hpt]; exact hr, ?_, Same.setRow _ _ _⟩
          refine hm.change hc (by rfl) (fun _ hg => hg) (fun u hu => (setAll_mem hu).elim (hwf u) (hcw u)) ?_ (fun g hg => setRow_other w (β i).g g _ (by simpa [Ch.foot] using hg))
          simp only [Ch.sat]
          refine ⟨hs.1, ?_⟩
          rw [setRow_heap w (β i).g _ _ e (0, 0) hs.2, hcd]
          simp [setAll_map (SV.den β) cs off vs hle']
        · cases h
      · cases h
    · cases h
  · cases h

end Go.Sx

namespace Go.Sx
open Go

theorem sizeOf_of {P : Program} {t : TypeId} {i : TypeInfo} (h : P.info? t = some i) (w : World) : (sizeOf t).run P w = .ok i.size w := by
  simp [sizeOf, typeInfo, h]
theorem isAgg_of {P : Program} {t : TypeId} {d : TypeDesc} (h : P.underlying t = some d) (w : World) : (isAgg t).run P w = .ok (isRowD d) w := by
  simp only [isAgg, Sem.run_bind, run_underlying h, Result.andThen_ok]
  cases d <;> rfl

theorem kd_struct {P : Program} {t : TypeId} {fs : List (Nat × Nat × Bool)} (h : kdOf P t = .struct fs) :
    ∃ fields, P.underlying t = some (.struct fields) ∧ fsOf P fields.toList = some fs := by
  unfold kdOf at h
  split at h <;> try cases h
  · rename_i fields hu
    refine ⟨fields, hu, ?_⟩
    cases hf : fsOf P fields.toList with
    | none => simp [hf] at h
    | some l => simp [hf] at h; rw [h]
  all_goals (split at h <;> cases h)

theorem kd_arr {P : Program} {t : TypeId} {n sz : Nat} {g : Bool} (h : kdOf P t = .arr n sz g) :
    ∃ e i d, P.underlying t = some (.array n e) ∧ P.info? e = some i ∧ P.underlying e = some d ∧ i.size = sz ∧ isRowD d = g := by
  unfold kdOf at h
  split at h <;> try cases h
  · split at h <;> cases h
  · rename_i n' e hu
    split at h
    · rename_i i d hi hd
      cases h
      exact ⟨e, i, d, hu, hi, hd, rfl, rfl⟩
    · cases h
  · split at h <;> cases h
  all_goals (split at h <;> cases h)

theorem kd_slice {P : Program} {t : TypeId} {e sz by_ : Nat} (h : kdOf P t = .slice e sz by_) :
    ∃ i, P.underlying t = some (.slice e) ∧ P.info? e = some i ∧ i.size = sz ∧ i.bytes = by_ := by
  unfold kdOf at h
  split at h <;> try cases h
  · split at h <;> cases h
  · split at h <;> cases h
  · rename_i e' hu
    split at h
    · rename_i i hi
      cases h
      exact ⟨i, hu, hi, rfl, rfl⟩
    · cases h
  all_goals (split at h <;> cases h)

theorem kd_int {P : Program} {t : TypeId} {k : IntKind} (h : kdOf P t = .int k) : P.underlying t = some (.int k) := by
  unfold kdOf at h
  split at h <;> try cases h
  · rename_i hu; exact hu
  all_goals (split at h <;> cases h)
theorem kd_bool {P : Program} {t : TypeId} (h : kdOf P t = .bool) : P.underlying t = some .bool := by
  unfold kdOf at h
  split at h <;> try cases h
  · rename_i hu; exact hu
  all_goals (split at h <;> cases h)
theorem kd_str {P : Program} {t : TypeId} (h : kdOf P t = .str) : P.underlying t = some .string := by
  unfold kdOf at h
  split at h <;> try cases h
  · rename_i hu; exact hu
  all_goals (split at h <;> cases h)

theorem kd_fn {P : Program} {t : TypeId} (h : kdOf P t = .fn) : ∃ a b c, P.underlying t = some (.func a b c) := by
  unfold kdOf at h
  split at h <;> try cases h
  all_goals first
    | (rename_i a b c hu; exact ⟨a, b, c, hu⟩)
    | (split at h <;> cases h)
theorem kd_mapi {P : Program} {t : TypeId} {q : IntKind} {z : Value} (h : kdOf P t = .mapi q z) : ∃ k e, P.underlying t = some (.map k e) ∧ P.underlying k = some (.int q) ∧ (P.info? e).bind (·.zero) = some z := by
  unfold kdOf at h
  split at h <;> try cases h
  all_goals first
    | (rename_i k e hu
       split at h
       · rename_i h1 h2; cases h; exact ⟨k, e, hu, h1, h2⟩
       · cases h)
    | (split at h <;> cases h)
theorem kd_ptr {P : Program} {t : TypeId} (h : kdOf P t = .ptr) : ∃ e, P.underlying t = some (.pointer e) := by
  unfold kdOf at h
  split at h <;> try cases h
  all_goals first
    | (rename_i e hu; exact ⟨e, hu⟩)
    | (split at h <;> cases h)

theorem fsOf_get {P : Program} : ∀ {fl : List Field} {fs : List (Nat × Nat × Bool)} {j o sz : Nat} {g : Bool}, fsOf P fl = some fs → fs[j]? = some (o, sz, g) →
    ∃ f i d, fl[j]? = some f ∧ P.info? f.type = some i ∧ P.underlying f.type = some d ∧ f.offset = o ∧ i.size = sz ∧ isRowD d = g
  | [], fs, j, o, sz, g, h, hj => by simp [fsOf] at h; subst h; simp at hj
  | f :: fl, fs, j, o, sz, g, h, hj => by
    simp only [fsOf, List.mapM_cons, Option.bind_eq_bind, Option.pure_def] at h
    cases hi : P.info? f.type with
    | none => simp [hi] at h
    | some i =>
      cases hd : P.underlying f.type with
      | none => simp [hi, hd] at h
      | some d =>
        cases hr : fsOf P fl with
        | none => simp [fsOf] at hr; simp [hi, hd, hr] at h
        | some r =>
          have hr' := hr
          simp only [fsOf] at hr'
          simp [hi, hd, hr'] at h
          subst h
          cases j with
          | zero => simp at hj; obtain ⟨rfl, rfl, rfl⟩ := hj; exact ⟨f, i, d, rfl, hi, hd, rfl, rfl, rfl⟩
          | succ j => simpa using fsOf_get hr (by simpa using hj)

theorem fsOf_places {P : Program} : ∀ {fl : List Field} {fs : List (Nat × Nat × Bool)}, fsOf P fl = some fs →
    fl.mapM (fun f => (P.info? f.type).map fun i => (f.offset, i.size)) = some (fs.map fun q => (q.1, q.2.1))
  | [], fs, h => by simp [fsOf] at h; subst h; rfl
  | f :: fl, fs, h => by
    simp only [fsOf, List.mapM_cons, Option.bind_eq_bind, Option.pure_def] at h
    cases hi : P.info? f.type with
    | none => simp [hi] at h
    | some i =>
      cases hd : P.underlying f.type with
      | none => simp [hi, hd] at h
      | some d =>
        cases hr : fsOf P fl with
        | none => simp [fsOf] at hr; simp [hi, hd, hr] at h
        | some r =>
          have hr' := hr
          simp only [fsOf] at hr'
          simp [hi, hd, hr'] at h
          subst h
          have ih := fsOf_places hr
          simp [List.mapM_cons, hi, ih]

theorem addr_add (b off n : Nat) : (Addr.mk b off none).add n = ⟨b, off + n, none⟩ := by
  unfold Addr.add; split
  · rename_i h; subst h; rfl
  · rfl

def evFieldAddr (tt : TT) (s f : Nat) : TV → Step
  | .s (.loc i off) => match tlook s tt with
    | some ti => match ti.kd with
      | .struct fs => match fs[f]? with
        | some (o, sz, _) => match sz with
          | 0 => .stop
          | _ + 1 => .val (.t (.s (.loc i (off + o))))
        | none => .stop
      | _ => .stop
    | none => .stop
  | _ => .stop

theorem evFieldAddr_sound {P : Program} {tt : TT} (htt : TTok P tt) {β : Nat → Bd} {w : World} {m s f : Nat} {x : TV} {v : FV} (hw : x.wf m) (h : evFieldAddr tt s f x = .val v) :
    (Instr.fieldAt s (x.den β) f).run P w = .ok (v.den β) w ∧ v.wf m := by
  unfold evFieldAddr at h
  split at h
  · rename_i i off
    split at h
    · rename_i ti hti
      have hok := (tlook_ok htt hti).kd
      split at h
      · rename_i fs hfs
        rw [hfs] at hok
        obtain ⟨fields, hu, hfo⟩ := kd_struct hok
        split at h
        · rename_i o sz g hf
          obtain ⟨fd, fi, d, hfl, hi, hd, ho, hsz, _⟩ := fsOf_get hfo hf
          split at h
          · cases h
          · rename_i n
            cases h
            refine ⟨?_, hw⟩
            have hfl' : fields[f]? = some fd := by simpa using hfl
            simp [Instr.fieldAt, run_underlying hu, hfl', TV.den, SV.den, FV.den, Instr.sureAddr, fieldPlace, sizeOf_of hi, hsz, addr_add, ho]
        · cases h
      · cases h
    · cases h
  · cases h

/-- A part of a list of cells. -/
def partS (l : List SV) (off sz : Nat) (g : Bool) : Step :=
  match g with
  | true => match Nat.ble (off + sz) l.length with
    | true => forceL ((l.drop off).take sz) fun l' => .val (.t (.agg l'))
    | false => .stop
  | false => match l[off]? with
    | some v => .val (.t (.s v))
    | none => .stop

theorem partS_sound {P : Program} {β : Nat → Bd} {w : World} {m off sz : Nat} {g : Bool} {l : List SV} {v : FV} {t : TypeId} {i : TypeInfo} {d : TypeDesc}
    (hi : P.info? t = some i) (hd : P.underlying t = some d) (hs : i.size = sz) (hg : isRowD d = g) (hw : ∀ x ∈ l, x.wf m) (h : partS l off sz g = .val v) :
    (part t (l.map (SV.den β)).toArray off).run P w = .ok (v.den β) w ∧ v.wf m := by
  unfold partS at h
  split at h
  · split at h
    · rename_i hle
      rw [forceL_eq] at h
      cases h
      refine ⟨?_, fun y hy => hw y (List.mem_of_mem_drop (List.mem_of_mem_take hy))⟩
      simp only [part, Sem.run_bind, isAgg_of hd, hg, Result.andThen_ok, if_true, sizeOf_of hi, hs, Sem.run_pure]
      simp [FV.den, TV.den, List.map_take, List.map_drop]
    · cases h
  · split at h
    · rename_i u hu
      cases h
      refine ⟨?_, hw u (List.mem_of_getElem? hu)⟩
      simp [part, isAgg_of hd, hg, hu, FV.den, TV.den]
    · cases h

def evField (tt : TT) (s f : Nat) : TV → Step
  | .agg l => match tlook s tt with
    | some ti => match ti.kd with
      | .struct fs => match fs[f]? with
        | some (o, sz, g) => partS l o sz g
        | none => .stop
      | _ => .stop
    | none => .stop
  | _ => .stop

theorem evField_sound {P : Program} {tt : TT} (htt : TTok P tt) {β : Nat → Bd} {w : World} {m s f : Nat} {x : TV} {v : FV} (hw : x.wf m) (h : evField tt s f x = .val v) :
    (Instr.field s (x.den β) f).run P w = .ok (v.den β) w ∧ v.wf m := by
  unfold evField at h
  split at h
  · rename_i l
    split at h
    · rename_i ti hti
      have hok := (tlook_ok htt hti).kd
      split at h
      · rename_i fs hfs
        rw [hfs] at hok
        obtain ⟨fields, hu, hfo⟩ := kd_struct hok
        split at h
        · rename_i o sz g hf
          obtain ⟨fd, fi, d, hfl, hi, hd, ho, hsz, hg⟩ := fsOf_get hfo hf
          have hfl' : fields[f]? = some fd := by simpa using hfl
          have := partS_sound (P := P) (β := β) (w := w) hi hd hsz hg hw h
          simpa [Instr.field, run_underlying hu, hfl', TV.den, asAgg, ho] using this
        · cases h
      · cases h
    · cases h
  · cases h

/-- An index that is written out. -/
def natOf : Int → Option Nat
  | .ofNat m => some m
  | .negSucc _ => none

def evIndexAddr (tt : TT) (t : Nat) (x y : TV) : Step :=
  match x, y with
  | .s (.loc i off), .s (.int _ n) => match tlook t tt with
    | some ti => match ti.kd with
      | .arr len sz _ => match natOf n with
        | some j => match Nat.blt j len with
          | true => .val (.t (.s (.loc i (off + j * sz))))
          | false => .stop
        | none => .stop
      | _ => .stop
    | none => .stop
  | _, _ => .stop

theorem natOf_eq {n : Int} {j : Nat} (h : natOf n = some j) : n = (j : Int) := by
  cases n <;> simp [natOf] at h; subst h; rfl

theorem evIndexAddr_sound {P : Program} {tt : TT} (htt : TTok P tt) {β : Nat → Bd} {w : World} {m t : Nat} {x y : TV} {v : FV} (hw : x.wf m) (h : evIndexAddr tt t x y = .val v) :
    (Instr.indexAt t (x.den β) (y.den β)).run P w = .ok (v.den β) w ∧ v.wf m := by
  unfold evIndexAddr at h
  split at h
  · rename_i i off k n
    split at h
    · rename_i ti hti
      have hok := (tlook_ok htt hti).kd
      split at h
      · rename_i len sz g hfs
        rw [hfs] at hok
        obtain ⟨e, ie, d, hu, hi, hd, hsz, _⟩ := kd_arr hok
        split at h
        · rename_i j hj
          have := natOf_eq hj; subst this
          split at h
          · rename_i hlt
            have hlt' : j < len := by simpa [Nat.blt_eq] using hlt
            cases h
            refine ⟨?_, hw⟩
            simp [Instr.indexAt, TV.den, SV.den, FV.den, asIntOf, run_underlying hu, Instr.sureAddr, hlt', sizeOf_of hi, hsz, addr_add]
          · cases h
        · cases h
      · cases h
    · cases h
  · cases h

def evIndex (tt : TT) (t : Nat) (x y : TV) : Step :=
  match x, y with
  | .agg l, .s (.int _ n) => match tlook t tt with
    | some ti => match ti.kd with
      | .arr len sz g => match natOf n with
        | some j => match Nat.blt j len with
          | true => partS l (j * sz) sz g
          | false => .stop
        | none => .stop
      | _ => .stop
    | none => .stop
  | _, _ => .stop

theorem evIndex_sound {P : Program} {tt : TT} (htt : TTok P tt) {β : Nat → Bd} {w : World} {m t : Nat} {x y : TV} {v : FV} (hw : x.wf m) (h : evIndex tt t x y = .val v) :
    (Instr.index t (x.den β) (y.den β)).run P w = .ok (v.den β) w ∧ v.wf m := by
  unfold evIndex at h
  split at h
  · rename_i l k n
    split at h
    · rename_i ti hti
      have hok := (tlook_ok htt hti).kd
      split at h
      · rename_i len sz g hfs
        rw [hfs] at hok
        obtain ⟨e, ie, d, hu, hi, hd, hsz, hg⟩ := kd_arr hok
        split at h
        · rename_i j hj
          have := natOf_eq hj; subst this
          split at h
          · rename_i hlt
            have hlt' : j < len := by simpa [Nat.blt_eq] using hlt
            have hp := partS_sound (P := P) (β := β) (w := w) hi hd hsz hg hw h
            refine ⟨?_, hp.2⟩
            rw [← hp.1]
            simp [Instr.index, TV.den, SV.den, asIntOf, run_underlying hu, sizeOf_of hi, hsz]
            intro; omega
          · cases h
        · cases h
      · cases h
    · cases h
  · cases h

/-! ### build -/
def fillS (place : List (Nat × Nat × Bool)) : List SV → List (Nat × List SV) → Option (List SV)
  | cells, [] => some cells
  | cells, (i, vs) :: rest => match place[i]? with
    | some (off, size, _) => match Nat.beq vs.length size, Nat.ble (off + vs.length) cells.length with
      | true, true => fillS place (setAll cells off vs) rest
      | _, _ => none
    | none => none

theorem foldl_set (off : Nat) : ∀ (vs : List Value) (k : Nat) (cs : Array Value), off + k + vs.length ≤ cs.size →
    ((vs.zipIdx k).foldl (fun cs (p : Value × Nat) => cs.setIfInBounds (off + p.2) p.1) cs).toList = cs.toList.take (off + k) ++ vs ++ cs.toList.drop (off + k + vs.length)
  | [], k, cs, _ => by simp
  | v :: vs, k, cs, h => by
    simp only [List.zipIdx_cons, List.foldl_cons]
    rw [foldl_set off vs (k + 1) _ (by simp at h ⊢; omega)]
    have e := list_seg_step cs.toList (off + k) v vs (by simp at h ⊢; omega)
    simpa [Array.toList_setIfInBounds, Nat.add_assoc] using e

theorem fillS_sound {β : Nat → Bd} {place : List (Nat × Nat × Bool)} {pf : Nat → Option (Nat × Nat)} (hpf : ∀ i q, place[i]? = some q → pf i = some (q.1, q.2.1)) :
    ∀ {parts : List (Nat × List SV)} {cells r : List SV} {vparts : List (Nat × Value)},
    fillS place cells parts = some r → vparts.map (fun p => (p.1, p.2.cells)) = parts.map (fun p => (p.1, (p.2.map (SV.den β)).toArray)) →
    Instr.fill pf (cells.map (SV.den β)).toArray vparts = some (r.map (SV.den β)).toArray
  | [], cells, r, vparts, h, he => by
    simp at he; subst he
    simp [fillS] at h; subst h; rfl
  | (i, vs) :: rest, cells, r, vparts, h, he => by
    cases vparts with
    | nil => simp at he
    | cons p vp =>
      obtain ⟨i', v⟩ := p
      simp only [List.map_cons, List.cons.injEq, Prod.mk.injEq] at he
      obtain ⟨⟨rfl, hv⟩, he⟩ := he
      simp only [fillS] at h
      split at h
      · rename_i off size g hp
        split at h
        · rename_i hb hle
          have hb' := Nat.eq_of_beq_eq_true hb
          have hle' := Nat.le_of_ble_eq_true hle
          rw [Instr.fill, hpf _ _ hp]
          simp only [hv]
          rw [if_neg (by simp; omega)]
          have ih := fillS_sound hpf h he
          rw [← ih]
          congr 1
          apply Array.ext'
          have hf := foldl_set off (vs.map (SV.den β)) 0 (cells.map (SV.den β)).toArray (by simpa using hle')
          simp only [Nat.add_zero] at hf
          rw [← Array.foldl_toList, Array.toList_zipIdx]
          rw [hf]
          simp [setAll_map (SV.den β) cells off vs hle']
        · cases h
      · cases h
theorem fillS_wf {m : Nat} {place : List (Nat × Nat × Bool)} : ∀ {parts : List (Nat × List SV)} {cells r : List SV},
    fillS place cells parts = some r → (∀ x ∈ cells, x.wf m) → (∀ p ∈ parts, ∀ x ∈ p.2, x.wf m) → ∀ x ∈ r, x.wf m
  | [], cells, r, h, hc, _ => by simp [fillS] at h; subst h; exact hc
  | (i, vs) :: rest, cells, r, h, hc, hp => by
    simp only [fillS] at h
    split at h
    · split at h
      · exact fillS_wf h (fun x hx => (setAll_mem hx).elim (hc x) (hp (i, vs) (by simp) x)) (fun p hp' => hp p (by simp [hp']))
      · cases h
    · cases h

def partsS (fr : Fr) (g : Gd) : List (Nat × Operand) → Option (List (Nat × List SV))
  | [] => some []
  | (i, x) :: l => match opd fr g x with
    | some v => match v.cells with
      | some cs => match partsS fr g l with
        | some r => some ((i, cs) :: r)
        | none => none
      | none => none
    | none => none

theorem partsS_sound {β : Nat → Bd} {fr : Fr} {m : Nat} {g : Gd} {a : Act} (hk : Knows β fr a) (hu : Under g a) (hw : ∀ e ∈ fr, e.2.1.wf m) :
    ∀ {l : List (Nat × Operand)} {r : List (Nat × List SV)}, partsS fr g l = some r →
      (l.map fun p => (p.1, (a.eval p.2).cells)) = r.map (fun p => (p.1, (p.2.map (SV.den β)).toArray)) ∧ ∀ p ∈ r, ∀ x ∈ p.2, x.wf m
  | [], r, h => by simp [partsS] at h; subst h; simp
  | (i, x) :: l, r, h => by
    simp only [partsS] at h
    split at h
    · rename_i v hv
      split at h
      · rename_i cs hcs
        split at h
        · rename_i r' hr'
          cases h
          have ih := partsS_sound hk hu hw hr'
          have hvw := opd_wf hw hv
          refine ⟨?_, ?_⟩
          · simp only [List.map_cons, opd_sound hk hu hv, TV.cells_den hvw hcs, ih.1]
          · intro p hp
            rcases List.mem_cons.1 hp with rfl | hp
            · exact TV.cells_wf hvw hcs
            · exact ih.2 p hp
        · cases h
      · cases h
    · cases h

def evBuild (tt : TT) (fr : Fr) (g : Gd) (t : Nat) (parts : List (Nat × Operand)) : Step :=
  match tlook t tt with
  | some ti => match cellsV ti.zv with
    | some z => match partsS fr g parts with
      | some ps => match ti.kd with
        | .struct fs => match fillS fs z ps with
          | some r => forceL r fun l => .val (.t (.agg l))
          | none => .stop
        | .arr n sz gg => match fillS ((List.range n).map fun i => (i * sz, sz, gg)) z ps with
          | some r => forceL r fun l => .val (.t (.agg l))
          | none => .stop
        | _ => .stop
      | none => .stop
    | none => .stop
  | none => .stop

theorem evBuild_sound {P : Program} {tt : TT} (htt : TTok P tt) {β : Nat → Bd} {fr : Fr} {m : Nat} {g : Gd} {a : Act} {w : World} (hk : Knows β fr a) (hu : Under g a) (hw : ∀ e ∈ fr, e.2.1.wf m)
    {t : Nat} {parts : Array (Nat × Operand)} {v : FV} (h : evBuild tt fr g t parts.toList = .val v) :
    (Instr.build t (parts.map fun (p : Nat × Operand) => (p.1, a.eval p.2))).run P w = .ok (v.den β) w ∧ v.wf m := by
  unfold evBuild at h
  split at h
  · rename_i ti hti
    have hok := tlook_ok htt hti
    have hz := hok.zero
    cases hi : P.info? t with
    | none => simp [hi] at hz
    | some it =>
      simp only [hi, Option.bind_some] at hz
      split at h
      · rename_i z hzz
        split at h
        · rename_i ps hps
          have hpp := partsS_sound (β := β) hk hu hw hps
          split at h
          · rename_i fs hfs
            split at h
            · rename_i r hr
              rw [forceL_eq] at h
              cases h
              obtain ⟨fields, hun, hfo⟩ := kd_struct (hok.kd.trans hfs)
              refine ⟨?_, fillS_wf hr (cellsV_wf hzz) hpp.2⟩
              refine run_build w t _ _ ?_
              unfold Program.built
              simp only [hi, hun, hz, fsOf_places hfo]
              rw [cellsV_den (β := β) hzz]
              refine fillS_sound (β := β) (fun i q hq => ?_) hr (by rw [← hpp.1]; simp)
              simp [hq]
            · cases h
          · rename_i n sz gg hfs
            split at h
            · rename_i r hr
              rw [forceL_eq] at h
              cases h
              obtain ⟨e, ie, d, hun, hie, hd, hsz, _⟩ := kd_arr (hok.kd.trans hfs)
              refine ⟨?_, fillS_wf hr (cellsV_wf hzz) hpp.2⟩
              refine run_build w t _ _ ?_
              unfold Program.built
              simp only [hi, hun, hz, hie]
              rw [cellsV_den (β := β) hzz]
              refine fillS_sound (β := β) (fun i q hq => ?_) hr (by rw [← hpp.1]; simp)
              simp only [List.getElem?_map, Option.map_eq_some_iff] at hq
              obtain ⟨a', ha', rfl⟩ := hq
              have : a' = i := by
                rw [List.getElem?_range] at ha'
                · exact (Option.some.inj ha').symm
                · rcases Nat.lt_or_ge i n with h' | h'
                  · exact h'
                  · rw [List.getElem?_eq_none (by simpa using h')] at ha'; cases ha'
              subst this
              simp [hsz]
            · cases h
          · cases h
        · cases h
      · cases h
  · cases h

end Go.Sx

namespace Go.Sx
open Go

def notI (k : IntKind) (n : Int) : Int := bits .xor k (if k.signed then -1 else k.max) n

def evBin (tt : TT) (op : BinOp) (T : Nat) (x y : TV) : Step :=
  match x, y with
  | .s (.int k a), .s (.int k' b) => match op with
    | .shl => match shI .shl k a b with
      | some v => .val (.t (.s v))
      | none => .stop
    | .shr => match shI .shr k a b with
      | some v => .val (.t (.s v))
      | none => .stop
    | op => match Nat.beq (kn k) (kn k') with
      | true => match binI op k a b with
        | some v => .val (.t (.s v))
        | none => .stop
      | false => .stop
  | .s (.bool a), .s (.bool b) => match tlook T tt with
    | some ti => match ti.kd with
      | .bool => match op with
        | .eql => .val (.t (.s (.bool (a == b))))
        | .neq => .val (.t (.s (.bool (!(a == b)))))
        | _ => .stop
      | _ => .stop
    | none => .stop
  | .s (.str a), .s (.str b) => match op with
    | .eql => .val (.t (.s (.bool (a == b))))
    | .neq => .val (.t (.s (.bool (!(a == b)))))
    | _ => .stop
  | .s (.loc _ _), .s (.raw (.pointer none)) => match tlook T tt with
    | some ti => match ti.kd with
      | .ptr => match op with
        | .eql => .val (.t (.s (.bool false)))
        | .neq => .val (.t (.s (.bool true)))
        | _ => .stop
      | _ => .stop
    | none => .stop
  | .s (.raw (.pointer none)), .s (.raw (.pointer none)) => match tlook T tt with
    | some ti => match ti.kd with
      | .ptr => match op with
        | .eql => .val (.t (.s (.bool true)))
        | .neq => .val (.t (.s (.bool false)))
        | _ => .stop
      | _ => .stop
    | none => .stop
  | .clo _ _ _, .s (.raw .nilFunc) => match tlook T tt with
    | some ti => match ti.kd with
      | .fn => match op with
        | .eql => .val (.t (.s (.bool false)))
        | .neq => .val (.t (.s (.bool true)))
        | _ => .stop
      | _ => .stop
    | none => .stop
  | .s (.raw .nilFunc), .s (.raw .nilFunc) => match tlook T tt with
    | some ti => match ti.kd with
      | .fn => match op with
        | .eql => .val (.t (.s (.bool true)))
        | .neq => .val (.t (.s (.bool false)))
        | _ => .stop
      | _ => .stop
    | none => .stop
  | .agg xs, .agg ys => match tlook T tt with
    | some ti => match ti.flat with
      | some ks => match eqL ks xs ys with
        | some b => match op with
          | .eql => .val (.t (.s (.bool b)))
          | .neq => .val (.t (.s (.bool (!b))))
          | _ => .stop
        | none => .stop
      | none => .stop
    | none => .stop
  | _, _ => .stop

theorem run_equalIn_ptr {P : Program} (w : World) (d : Nat) (t : TypeId) {e : TypeId} (a : Addr) (hu : P.underlying t = some (.pointer e)) : (Op.equalIn (d + 1) t (.pointer (some a)) (.pointer none)).run P w = .ok false w := by
  unfold Op.equalIn
  simp only [Sem.run_bind, run_underlying hu, Result.andThen_ok]
  rfl
theorem run_equalIn_nil {P : Program} (w : World) (d : Nat) (t : TypeId) {e : TypeId} (hu : P.underlying t = some (.pointer e)) : (Op.equalIn (d + 1) t (.pointer none) (.pointer none)).run P w = .ok true w := by
  unfold Op.equalIn
  simp only [Sem.run_bind, run_underlying hu, Result.andThen_ok]
  rfl

theorem run_equalIn_fn {P : Program} (w : World) (d : Nat) (t : TypeId) {a b : Array TypeId} {c : Bool} (f : Fn) (x y : Array Value) (hu : P.underlying t = some (.func a b c)) : (Op.equalIn (d + 1) t (.func f x y) .nilFunc).run P w = .ok false w := by
  unfold Op.equalIn
  simp only [Sem.run_bind, run_underlying hu, Result.andThen_ok]
  rfl
theorem run_equalIn_nilfn {P : Program} (w : World) (d : Nat) (t : TypeId) {a b : Array TypeId} {c : Bool} (hu : P.underlying t = some (.func a b c)) : (Op.equalIn (d + 1) t .nilFunc .nilFunc).run P w = .ok true w := by
  unfold Op.equalIn
  simp only [Sem.run_bind, run_underlying hu, Result.andThen_ok]
  rfl

theorem evBin_sound {P : Program} {tt : TT} (htt : TTok P tt) {β : Nat → Bd} {w : World} {m : Nat} {op : BinOp} {T : TypeId} {x y : TV} {v : FV} {ox oy : Operand} (h : evBin tt op T x y = .val v) :
    (do eqGuard op T ox oy (x.den β) (y.den β); binOp op T (x.den β) (y.den β) : Sem Value).run P w = .ok (v.den β) w ∧ v.wf m := by
  unfold evBin at h
  split at h
  · rename_i k a k' b
    have hg : ∀ op', (eqGuard op' T ox oy (Value.int k a) (Value.int k' b)).run P w = .ok () w := fun op' => eqGuard_int
    have wfI : ∀ {op : BinOp} {u : SV}, binI op k a b = some u → u.wf m := by
      intro op u hu
      cases op <;> simp only [binI] at hu <;> first | (cases hu; done) | (cases hu; trivial) | (split at hu <;> cases hu; trivial)
    have wfS : ∀ {op : BinOp} {u : SV}, shI op k a b = some u → u.wf m := by
      intro op u hu
      unfold shI at hu
      split at hu <;> cases hu <;> trivial
    split at h
    · split at h
      · rename_i u hu
        cases h
        exact ⟨by simp only [TV.den, SV.den, Sem.run_bind, hg, Result.andThen_ok, FV.den]; exact shI_sound hu, wfS hu⟩
      · cases h
    · split at h
      · rename_i u hu
        cases h
        exact ⟨by simp only [TV.den, SV.den, Sem.run_bind, hg, Result.andThen_ok, FV.den]; exact shI_sound hu, wfS hu⟩
      · cases h
    · split at h
      · rename_i hk
        have := kn_eq hk; subst this
        split at h
        · rename_i u hu
          cases h
          exact ⟨by simp only [TV.den, SV.den, Sem.run_bind, hg, Result.andThen_ok, FV.den]; exact binI_sound hu, wfI hu⟩
        · cases h
      · cases h
  · rename_i a b
    split at h
    · rename_i ti hti
      have hok := (tlook_ok htt hti).kd
      split at h
      · rename_i hb
        have hu := kd_bool (hok.trans hb)
        split at h <;> cases h
        · refine ⟨?_, trivial⟩
          simp [TV.den, SV.den, FV.den, eqGuard_bool, binOp, Op.equal, Op.maxDepth, run_equalIn_bool' w 9999 T a b hu]
        · refine ⟨?_, trivial⟩
          simp [TV.den, SV.den, FV.den, eqGuard_bool, binOp, Op.equal, Op.maxDepth, run_equalIn_bool' w 9999 T a b hu]
      · cases h
    · cases h
  · rename_i a b
    split at h <;> cases h
    · refine ⟨?_, trivial⟩
      simp [TV.den, SV.den, FV.den, eqGuard, binOp, Op.stringOp]
    · refine ⟨?_, trivial⟩
      simp [TV.den, SV.den, FV.den, eqGuard, binOp, Op.stringOp]
  · split at h
    · rename_i ti hti
      have hok := (tlook_ok htt hti).kd
      split at h
      · rename_i hb
        obtain ⟨e, hu⟩ := kd_ptr (hok.trans hb)
        split at h <;> cases h
        · refine ⟨?_, trivial⟩
          simp [TV.den, SV.den, FV.den, eqGuard, binOp, Op.equal, Op.maxDepth, run_equalIn_ptr w 9999 T _ hu]
        · refine ⟨?_, trivial⟩
          simp [TV.den, SV.den, FV.den, eqGuard, binOp, Op.equal, Op.maxDepth, run_equalIn_ptr w 9999 T _ hu]
      · cases h
    · cases h
  · split at h
    · rename_i ti hti
      have hok := (tlook_ok htt hti).kd
      split at h
      · rename_i hb
        obtain ⟨e, hu⟩ := kd_ptr (hok.trans hb)
        split at h <;> cases h
        · refine ⟨?_, trivial⟩
          simp [TV.den, SV.den, FV.den, eqGuard, binOp, Op.equal, Op.maxDepth, run_equalIn_nil w 9999 T hu]
        · refine ⟨?_, trivial⟩
          simp [TV.den, SV.den, FV.den, eqGuard, binOp, Op.equal, Op.maxDepth, run_equalIn_nil w 9999 T hu]
      · cases h
    · cases h
  · split at h
    · rename_i ti hti
      have hok := (tlook_ok htt hti).kd
      split at h
      · rename_i hb
        obtain ⟨_, _, _, hu⟩ := kd_fn (hok.trans hb)
        split at h <;> cases h
        · refine ⟨?_, trivial⟩
          simp [TV.den, SV.den, FV.den, eqGuard, binOp, Op.equal, Op.maxDepth, run_equalIn_fn w 9999 T _ _ _ hu]
        · refine ⟨?_, trivial⟩
          simp [TV.den, SV.den, FV.den, eqGuard, binOp, Op.equal, Op.maxDepth, run_equalIn_fn w 9999 T _ _ _ hu]
      · cases h
    · cases h
  · split at h
    · rename_i ti hti
      have hok := (tlook_ok htt hti).kd
      split at h
      · rename_i hb
        obtain ⟨_, _, _, hu⟩ := kd_fn (hok.trans hb)
        split at h <;> cases h
        · refine ⟨?_, trivial⟩
          simp [TV.den, SV.den, FV.den, eqGuard, binOp, Op.equal, Op.maxDepth, run_equalIn_nilfn w 9999 T hu]
        · refine ⟨?_, trivial⟩
          simp [TV.den, SV.den, FV.den, eqGuard, binOp, Op.equal, Op.maxDepth, run_equalIn_nilfn w 9999 T hu]
      · cases h
    · cases h
  · rename_i xs ys
    split at h
    · rename_i ti hti
      have hok := tlook_ok htt hti
      split at h
      · rename_i ks hks
        obtain ⟨hgd, hfl⟩ := hok.flat ks hks
        split at h
        · rename_i b hb
          have he := hfl w β xs ys b hb
          have hg := fun op' => run_eqGuard_agg (P := P) w op' T ox oy (xs.map (SV.den β)).toArray (ys.map (SV.den β)).toArray hgd
          split at h <;> cases h
          · refine ⟨?_, trivial⟩
            simp only [TV.den, Sem.run_bind, hg, Result.andThen_ok, run_eql_struct, he]; rfl
          · refine ⟨?_, trivial⟩
            simp only [TV.den, Sem.run_bind, hg, Result.andThen_ok, run_neq_struct, he]; rfl
        · cases h
      · cases h
    · cases h
  · cases h

def evUn (op : UnOp) (x : TV) : Step :=
  match op, x with
  | .not, .s (.bool b) => .val (.t (.s (.bool (!b))))
  | .neg, .s (.int k n) => .val (.t (.s (.int k (k.wrap (0 - n)))))
  | .xor, .s (.int k n) => .val (.t (.s (.int k (notI k n))))
  | _, _ => .stop

theorem evUn_sound {P : Program} {β : Nat → Bd} {w : World} {m : Nat} {op : UnOp} {x : TV} {v : FV} (h : evUn op x = .val v) :
    (Op.unary op (x.den β)).run P w = .ok (v.den β) w ∧ v.wf m := by
  unfold evUn at h
  split at h <;> cases h
  · exact ⟨rfl, trivial⟩
  · exact ⟨rfl, trivial⟩
  · exact ⟨rfl, trivial⟩

def evConv (tt : TT) (src dst : Nat) (x : TV) : Step :=
  match x with
  | .s (.int _ n) => match tlook src tt, tlook dst tt with
    | some _, some ti => match ti.kd with
      | .int k => .val (.t (.s (.int k (k.wrap n))))
      | _ => .stop
    | _, _ => .stop
  | _ => .stop

theorem evConv_sound {P : Program} {tt : TT} (htt : TTok P tt) {β : Nat → Bd} {w : World} {m : Nat} {src dst : TypeId} {x : TV} {v : FV} (h : evConv tt src dst x = .val v) :
    (convert src dst (x.den β)).run P w = .ok (v.den β) w ∧ v.wf m := by
  unfold evConv at h
  split at h
  · rename_i k n
    split at h
    · rename_i si ti hs hti
      split at h
      · rename_i k' hk
        cases h
        have hd := kd_int ((tlook_ok htt hti).kd.trans hk)
        have ha := (tlook_ok htt hs).agg
        cases hu : P.underlying src with
        | none => simp [hu] at ha
        | some d => exact ⟨by simp [TV.den, SV.den, FV.den, convert, run_underlying hu, run_underlying hd, Conv.intToInt], trivial⟩
      · cases h
    · cases h
  · cases h

def svs (fr : Fr) (g : Gd) : List Operand → Option (List SV)
  | [] => some []
  | x :: l => match opd fr g x with
    | some (.s v) => match svs fr g l with
      | some r => some (v :: r)
      | none => none
    | _ => none

theorem svs_sound {β : Nat → Bd} {fr : Fr} {m : Nat} {g : Gd} {a : Act} (hk : Knows β fr a) (hu : Under g a) (hw : ∀ e ∈ fr, e.2.1.wf m) :
    ∀ {l : List Operand} {r : List SV}, svs fr g l = some r → l.map a.eval = r.map (SV.den β) ∧ ∀ x ∈ r, x.wf m
  | [], r, h => by simp [svs] at h; subst h; simp
  | x :: l, r, h => by
    simp only [svs] at h
    split at h
    · rename_i v hv
      split at h
      · rename_i r' hr
        cases h
        have ih := svs_sound hk hu hw hr
        refine ⟨by simp [opd_sound hk hu hv, TV.den, ih.1], ?_⟩
        intro y hy
        rcases List.mem_cons.1 hy with rfl | hy
        · exact opd_wf hw hv
        · exact ih.2 y hy
      · cases h
    · cases h

def evLen (tt : TT) (t : Nat) (x : TV) : Step :=
  match tlook t tt with
  | some ti => match ti.kd, x with
    | .slice _ _ _, .s (.sl _ _ n _) => .val (.t (.s (.int .i64 n)))
    | .slice _ _ _, .s (.raw (.slice _ n _)) => .val (.t (.s (.int .i64 n)))
    | .str, .s (.str l) => .val (.t (.s (.int .i64 l.length)))
    | _, _ => .stop
  | none => .stop

theorem evLen_sound {P : Program} {tt : TT} (htt : TTok P tt) {β : Nat → Bd} {w : World} {m : Nat} {t : TypeId} {x : TV} {v : FV} {ty : TypeId} (h : evLen tt t x = .val v) :
    (Builtin.len_ #[t] ty #[x.den β]).run P w = .ok (v.den β) w ∧ v.wf m := by
  unfold evLen at h
  split at h
  · rename_i ti hti
    have hok := (tlook_ok htt hti).kd
    split at h
    · rename_i e sz by_ i off n c hkd
      cases h
      obtain ⟨ie, hu, _⟩ := kd_slice (hok.trans hkd)
      exact ⟨by simp [Builtin.len_, run_underlying hu, TV.den, SV.den, FV.den, goInt], trivial⟩
    · rename_i e sz by_ a n c hkd
      cases h
      obtain ⟨ie, hu, _⟩ := kd_slice (hok.trans hkd)
      exact ⟨by simp [Builtin.len_, run_underlying hu, TV.den, SV.den, FV.den, goInt], trivial⟩
    · rename_i l hkd
      cases h
      have hu := kd_str (hok.trans hkd)
      have hsz : (ByteArray.mk l.toArray).size = l.length := by show l.toArray.size = _; simp
      refine ⟨?_, trivial⟩
      simp only [Builtin.len_, TV.den, SV.den, FV.den, goInt]
      simp only [List.getElem?_toArray, List.getElem?_cons_zero, Sem.run_bind, run_underlying hu, Result.andThen_ok, Sem.run_pure, hsz]
    · cases h
  · cases h

def ev2 (b : Builtin) (x y : TV) : Step :=
  match b, x, y with
  | .min, .s (.int k a), .s (.int _ b) => .val (.t (.s (.int k (if b < a then b else a))))
  | .max, .s (.int k a), .s (.int _ b) => .val (.t (.s (.int k (if b > a then b else a))))
  | _, _, _ => .stop

/-- A shift's count or a divisor that is not written out. -/
def symOp (op : BinOp) (y : Operand) : Bool := match op, y with
  | .shl, .tmp _ => true
  | .shr, .tmp _ => true
  | .quo, .tmp _ => true
  | .rem, .tmp _ => true
  | _, _ => false

def ev (tt : TT) (fr : Fr) (g : Gd) (σ : List Ch) (op : Op) : Step :=
  match op with
  | .move x => match opdF fr g x with
    | some v => .val v
    | none => .stop
  | .assign x => match opdF fr g x with
    | some v => .val v
    | none => .stop
  | .pick c x y => evPick fr g c x y
  | .build t ps => evBuild tt fr g t ps.toList
  | .load t x => match opd fr g x with
    | some v => evLoad tt σ t v
    | none => .stop
  | .fieldAddr s x f => match opd fr g x with
    | some v => evFieldAddr tt s f v
    | none => .stop
  | .field s x f => match opd fr g x with
    | some v => evField tt s f v
    | none => .stop
  | .indexAddr t x y => match opd fr g x, opd fr g y with
    | some u, some v => evIndexAddr tt t u v
    | _, _ => .stop
  | .index t x y => match opd fr g x, opd fr g y with
    | some u, some v => evIndex tt t u v
    | _, _ => .stop
  | .binOp op T x y _ => match symOp op y with
    | true => .stop
    | false => match opd fr g x, opd fr g y with
      | some u, some v => evBin tt op T u v
      | _, _ => .stop
  | .unOp op _ x => match opd fr g x with
    | some v => evUn op v
    | none => .stop
  | .convert src dst x => match opd fr g x with
    | some v => evConv tt src dst v
    | none => .stop
  | .extract x i => match opdF fr g x with
    | some (.tup l) => match l[i]? with
      | some v => .val (.t v)
      | none => .stop
    | _ => .stop
  | .makeFunc f a b => match svs fr g a.toList, svs fr g b.toList with
    | some u, some v => .val (.t (.clo f u v))
    | _, _ => match a.toList, b.toList with
      | [x], [] => match opd fr g x with
        | some (.agg l) => .val (.t (.bnd f l))
        | _ => .stop
      | _, _ => .stop
  | .nilCheck x => match opd fr g x with
    | some (.s (.loc i off)) => .val (.t (.s (.loc i off)))
    | some (.clo (.func f) u v) => .val (.t (.clo (.func f) u v))
    | some (.bnd (.func f) u) => .val (.t (.bnd (.func f) u))
    | _ => .stop
  | .call c => match c.callee with
    | .builtin .len => match c.args.toList, c.argTypes.toList with
      | [x], [t] => match opd fr g x with
        | some v => evLen tt t v
        | none => .stop
      | _, _ => .stop
    | .builtin b => match c.args.toList with
      | [x, y] => match opd fr g x, opd fr g y with
        | some u, some v => ev2 b u v
        | _, _ => .stop
      | _ => .stop
    | _ => .stop
  | _ => .stop

/-- What makes a block. -/
def evNew (tt : TT) (fr : Fr) (op : Op) : Option (Nat × List SV) :=
  match op with
  | .alloc e => match tlook e tt with
    | some ti => match cellsV ti.zv with
      | some cs => some (e, cs)
      | none => none
    | none => none
  | .box e x => match opd fr none x with
    | some v => match v.cells with
      | some cs => some (e, cs)
      | none => none
    | none => none
  | _ => none

/-- What writes into a known block. -/
def evUpd (tt : TT) (fr : Fr) (σ : List Ch) (op : Op) : Step :=
  match op with
  | .store t x y => match opd fr none x, opd fr none y with
    | some u, some v => evStore tt σ t u v
    | _, _ => .stop
  | _ => .stop

end Go.Sx

namespace Go.Sx
open Go

theorem opdP_sound {β : Nat → Bd} {fr : Fr} {g : Gd} {a : Act} (hk : Knows β fr a) (hu : Under g a) {c : Operand} {b : Bool} (hc : opd fr g c = some (.s (.bool b))) (p : Bool) (z : Operand) (q : TV) (hp : b = p) (hz : opdP fr g c p z = some q) : a.eval z = q.den β := by
  unfold opdP at hz
  split at hz
  · rename_i q' hq'; cases hz; exact opd_sound hk hu hq'
  · refine opd_sound hk ?_ hz
    cases c with
    | tmp t =>
      simp only [opd] at hc
      split at hc
      · rename_i v2 hl; cases hc; have := hk t _ _ hl; simpa [pickGd, Under, hp, FV.den, TV.den, SV.den] using this
      · rename_i v2 t' p' hl
        split at hc
        · rename_i hgm; cases hc
          have := gmatch_eq hgm; subst this
          have := (hk t _ _ hl).1 hu; simpa [pickGd, Under, hp, FV.den, TV.den, SV.den] using this
        · cases hc
      · cases hc
    | _ => trivial
theorem opdP_wf {fr : Fr} {g : Gd} {m : Nat} (hw : ∀ e ∈ fr, e.2.1.wf m) {c : Operand} (p : Bool) (z : Operand) (q : TV) (hz : opdP fr g c p z = some q) : (FV.t q).wf m := by
  unfold opdP at hz
  split at hz
  · rename_i q' hq'; cases hz; exact opd_wf hw hq'
  · exact opd_wf hw hz
theorem ev_val {P : Program} {tt : TT} (htt : TTok P tt) {β : Nat → Bd} {fr : Fr} {g : Gd} {σ : List Ch} {φ : Heap} {a : Act} {w : World} (hk : Knows β fr a) (hu : Under g a)
    (hw : ∀ e ∈ fr, e.2.1.wf σ.length) (hm : Sat β σ φ w) {o : Oper} {v : FV} (h : ev tt fr g σ o.op = .val v) :
    (execOp a.eval o).run P w = .ok (.value (v.den β)) w ∧ v.wf σ.length := by
  unfold ev at h
  unfold execOp
  split at h
  · -- move
    rename_i x hop
    split at h
    · rename_i u hx; cases h
      exact ⟨by rw [hop]; simp [opdF_sound hk hu hx], opdF_wf hw hx⟩
    · cases h
  · rename_i x hop
    split at h
    · rename_i u hx; cases h
      exact ⟨by rw [hop]; simp [opdF_sound hk hu hx], opdF_wf hw hx⟩
    · cases h
  · -- pick
    rename_i c x y hop
    unfold evPick at h
    split at h
    · rename_i b hc
      have hce := opd_sound hk hu hc
      have key : ∀ p (z : Operand) (q : TV), b = p → opdP fr g c p z = some q → a.eval z = q.den β := by
        intro p z q hp hz
        unfold opdP at hz
        split at hz
        · rename_i q' hq'; cases hz; exact opd_sound hk hu hq'
        · refine opd_sound hk ?_ hz
          cases c with
          | tmp t =>
            simp only [opd] at hc
            split at hc
            · rename_i v2 hl; cases hc; have := hk t _ _ hl; simpa [pickGd, Under, hp, FV.den, TV.den, SV.den] using this
            · rename_i v2 t' p' hl
              split at hc
              · rename_i hgm; cases hc
                have := gmatch_eq hgm; subst this
                have := (hk t _ _ hl).1 hu; simpa [pickGd, Under, hp, FV.den, TV.den, SV.den] using this
              · cases hc
            · cases hc
          | _ => trivial
      have hb : a.eval c = .bool b := hce
      have kwf : ∀ p (z : Operand) (q : TV), opdP fr g c p z = some q → (FV.t q).wf σ.length := by
        intro p z q hz
        unfold opdP at hz
        split at hz
        · rename_i q' hq'; cases hz; exact opd_wf hw hq'
        · exact opd_wf hw hz
      split at h
      · rename_i u v' hx hy
        split at h
        · rename_i r hr
          cases h
          refine ⟨?_, pickv_wf hr⟩
          have hval : (if b then a.eval x else a.eval y) = FV.den β (.t r) := by
            show _ = r.den β
            rw [pickv_sound (β := β) hr]
            cases b
            · simp [key false y v' rfl hy]
            · simp [key true x u rfl hx]
          rw [hop]
          simp only [hb, asBool, Sem.run_bind, Sem.run_pure, Result.andThen_ok, hval]
        · cases h
      · cases h
    · cases h
  · -- build
    rename_i t ps hop
    have := evBuild_sound (w := w) htt hk hu hw h
    refine ⟨?_, this.2⟩
    rw [hop]
    have h1 := this.1
    simp only [Sem.run_bind]
    rw [h1]; rfl
  · -- load
    rename_i t x hop
    split at h
    · rename_i u hx
      have := evLoad_sound htt hm h
      exact ⟨by rw [hop]; simp [opd_sound hk hu hx, this.1], this.2⟩
    · cases h
  · rename_i s x f hop
    split at h
    · rename_i u hx
      have := evFieldAddr_sound (β := β) (w := w) htt (opd_wf hw hx) h
      exact ⟨by rw [hop]; simp [opd_sound hk hu hx, this.1], this.2⟩
    · cases h
  · rename_i s x f hop
    split at h
    · rename_i u hx
      have := evField_sound (β := β) (w := w) htt (opd_wf hw hx) h
      exact ⟨by rw [hop]; simp [opd_sound hk hu hx, this.1], this.2⟩
    · cases h
  · rename_i t x y hop
    split at h
    · rename_i u u' hx hy
      have := evIndexAddr_sound (β := β) (w := w) htt (opd_wf hw hx) h
      exact ⟨by rw [hop]; simp [opd_sound hk hu hx, opd_sound hk hu hy, this.1], this.2⟩
    · cases h
  · rename_i t x y hop
    split at h
    · rename_i u u' hx hy
      have := evIndex_sound (β := β) (w := w) htt (opd_wf hw hx) h
      exact ⟨by rw [hop]; simp [opd_sound hk hu hx, opd_sound hk hu hy, this.1], this.2⟩
    · cases h
  · rename_i op T x y T' hop
    split at h
    · cases h
    · split at h
      · rename_i u u' hx hy
        have := evBin_sound (β := β) (w := w) (m := σ.length) (ox := x) (oy := y) htt h
        refine ⟨?_, this.2⟩
        rw [hop]
        simp only [opd_sound hk hu hx, opd_sound hk hu hy]
        rw [Sem.run_bind, this.1]; rfl
      · cases h
  · rename_i op T x hop
    split at h
    · rename_i u hx
      have := evUn_sound (P := P) (β := β) (w := w) (m := σ.length) h
      exact ⟨by rw [hop]; simp [opd_sound hk hu hx, this.1], this.2⟩
    · cases h
  · rename_i src dst x hop
    split at h
    · rename_i u hx
      have := evConv_sound (β := β) (w := w) (m := σ.length) htt h
      exact ⟨by rw [hop]; simp [opd_sound hk hu hx, this.1], this.2⟩
    · cases h
  · -- extract
    rename_i x i hop
    split at h
    · rename_i l hx
      split at h
      · rename_i u hi
        cases h
        have hwf : (FV.tup l).wf σ.length := opdF_wf hw hx
        refine ⟨?_, hwf u (List.mem_of_getElem? hi)⟩
        rw [hop]
        simp [opdF_sound hk hu hx, FV.den, Instr.extract, hi]
      · cases h
    · cases h
  · -- makeFunc
    rename_i f x y hop
    split at h
    · rename_i u u' hx hy
      cases h
      have h1 := svs_sound hk hu hw hx
      have h2 := svs_sound hk hu hw hy
      refine ⟨?_, h1.2, h2.2⟩
      rw [hop]
      have e1 : x.map a.eval = (u.map (SV.den β)).toArray := by apply Array.ext'; simpa using h1.1
      have e2 : y.map a.eval = (u'.map (SV.den β)).toArray := by apply Array.ext'; simpa using h2.1
      simp [Instr.makeFunc, e1, e2, FV.den, TV.den]
    · split at h
      · rename_i x1 hx hy
        split at h
        · rename_i l hl
          cases h
          refine ⟨?_, (opd_wf hw hl : TV.wf _ (.agg l))⟩
          rw [hop]
          have e1 : x = #[x1] := by apply Array.ext'; simpa using hx
          have e2 : y = #[] := by apply Array.ext'; simpa using hy
          simp [Instr.makeFunc, e1, e2, opd_sound hk hu hl, FV.den, TV.den]
        · cases h
      · cases h
  · -- nilCheck
    rename_i x hop
    split at h
    · rename_i i off hx
      cases h
      refine ⟨?_, opd_wf hw hx⟩
      rw [hop]
      simp [opd_sound hk hu hx, TV.den, SV.den, FV.den]
    · rename_i f u u' hx
      cases h
      refine ⟨?_, opd_wf hw hx⟩
      rw [hop]
      simp [opd_sound hk hu hx, TV.den, FV.den]
    · rename_i f u hx
      cases h
      refine ⟨?_, opd_wf hw hx⟩
      rw [hop]
      simp [opd_sound hk hu hx, TV.den, FV.den]
    · cases h
  · -- call
    rename_i c hop
    split at h
    · rename_i hcal
      split at h
      · rename_i x t hxs hts
        split at h
        · rename_i u hx
          have := evLen_sound (β := β) (w := w) (m := σ.length) (ty := o.type) htt h
          refine ⟨?_, this.2⟩
          rw [hop]
          have ha : c.args = #[x] := by apply Array.ext'; simpa using hxs
          have ht : c.argTypes = #[t] := by apply Array.ext'; simpa using hts
          simp [resolve, hcal, ha, ht, invoke, builtin, opd_sound hk hu hx, this.1]
        · cases h
      · cases h
    · rename_i b hb hcal
      split at h
      · rename_i x y hxs
        split at h
        · rename_i u u' hx hy
          have ha : c.args = #[x, y] := by apply Array.ext'; simpa using hxs
          unfold ev2 at h
          split at h
          · cases h
            refine ⟨?_, trivial⟩
            rw [hop]
            simp [resolve, hcal, ha, invoke, builtin, opd_sound hk hu hx, opd_sound hk hu hy, TV.den, SV.den, FV.den, Builtin.min_, Builtin.min2]
          · cases h
            refine ⟨?_, trivial⟩
            rw [hop]
            simp [resolve, hcal, ha, invoke, builtin, opd_sound hk hu hx, opd_sound hk hu hy, TV.den, SV.den, FV.den, Builtin.max_, Builtin.max2]
          · cases h
        · cases h
      · cases h
    · cases h
  · cases h

end Go.Sx

namespace Go.Sx
open Go

theorem evNew_sound {P : Program} {tt : TT} (htt : TTok P tt) {β : Nat → Bd} {fr : Fr} {m : Nat} {a : Act} {w : World} (hk : Knows β fr a)
    (hw : ∀ e ∈ fr, e.2.1.wf m) {o : Oper} {e : Nat} {cs : List SV} (h : evNew tt fr o.op = some (e, cs)) :
    (execOp a.eval o).run P w = .ok (.value (.pointer (some ⟨w.heap.size, 0, none⟩))) (w.alloc (.cells (cs.map (SV.den β)).toArray e)) ∧ ∀ x ∈ cs, x.wf m := by
  unfold evNew at h
  unfold execOp
  split at h
  · rename_i e' hop
    split at h
    · rename_i ti hti
      split at h
      · rename_i cs' hcs
        cases h
        have hz := zero_run (tlook_ok htt hti) w
        refine ⟨?_, cellsV_wf hcs⟩
        rw [hop]
        simp [Instr.alloc, hz, newVar, newRow, cellsV_den (β := β) hcs]
      · cases h
    · cases h
  · rename_i e' x hop
    split at h
    · rename_i u hx
      split at h
      · rename_i cs' hcs
        cases h
        have hwx := opd_wf hw hx
        refine ⟨?_, TV.cells_wf hwx hcs⟩
        rw [hop]
        simp [Instr.box, opd_sound (g := none) hk trivial hx, newVar, newRow, TV.cells_den (β := β) hwx hcs]
      · cases h
    · cases h
  · cases h

theorem evUpd_sound {P : Program} {tt : TT} (htt : TTok P tt) {β : Nat → Bd} {fr : Fr} {σ : List Ch} {φ : Heap} {a : Act} {w : World} (hk : Knows β fr a)
    (hw : ∀ e ∈ fr, e.2.1.wf σ.length) (hm : Sat β σ φ w) {o : Oper} {i e : Nat} {cs : List SV} (h : evUpd tt fr σ o.op = .upd i e cs) :
    ∃ w', (execOp a.eval o).run P w = .ok .skip w' ∧ Sat β (σ.set i (.blk e cs)) φ w' ∧ Same w w' := by
  unfold evUpd at h
  unfold execOp
  split at h
  · rename_i t x y hop
    split at h
    · rename_i u v hx hy
      obtain ⟨w', hr, hs⟩ := evStore_sound htt hm (opd_wf hw hy) h
      refine ⟨w', ?_, hs⟩
      rw [hop]
      simp [opd_sound (g := none) hk trivial hx, opd_sound (g := none) hk trivial hy, hr]
    · cases h
  · cases h

theorem evUpd_blk {tt : TT} {fr : Fr} {σ : List Ch} {op : Op} {i e : Nat} {cs : List SV} (h : evUpd tt fr σ op = .upd i e cs) : ∃ (e' : Nat) (cs' : List SV), σ[i]? = some (.blk e' cs') := by
  unfold evUpd at h
  split at h
  · split at h
    · unfold evStore at h
      split at h
      · split at h
        · rename_i hc
          split at h
          · split at h
            · rw [forceL_eq] at h; cases h; exact ⟨_, _, hc⟩
            · cases h
          · cases h
        · cases h
      · cases h
    · cases h
  · cases h

/-! ### Putting a value into a slot -/
def elemN (d : Nat) : List Nat → Bool
  | [] => false
  | x :: l => match Nat.beq d x with
    | true => true
    | false => elemN d l
theorem elemN_false {d : Nat} : ∀ {l : List Nat}, elemN d l = false → d ∉ l
  | [], _ => by simp
  | x :: l, h => by
    unfold elemN at h
    split at h
    · cases h
    · rename_i hx
      have : d ≠ x := fun e => by subst e; rw [Nat.beq_refl] at hx; cases hx
      simp [this, elemN_false h]

/-- No entry of the frame hangs on temporary d. -/
def noWhen (d : Nat) : Fr → Bool
  | [] => true
  | (_, _, none) :: r => noWhen d r
  | (_, _, some (t, _)) :: r => match Nat.beq d t with
    | true => false
    | false => noWhen d r
theorem noWhen_spec {d : Nat} : ∀ {fr : Fr}, noWhen d fr = true → ∀ k v t p, (k, v, some (t, p)) ∈ fr → t ≠ d
  | [], _, _, _, _, _, hm => by simp at hm
  | (_, _, none) :: r, h, k, v, t, p, hm => by
    simp only [noWhen] at h
    rcases List.mem_cons.1 hm with hm | hm
    · simp at hm
    · exact noWhen_spec h k v t p hm
  | (_, _, some (t', p')) :: r, h, k, v, t, p, hm => by
    simp only [noWhen] at h
    split at h
    · cases h
    · rename_i hb
      rcases List.mem_cons.1 hm with hm | hm
      · simp at hm; obtain ⟨_, _, rfl, _⟩ := hm
        intro e; subst e; rw [Nat.beq_refl] at hb; cases hb
      · exact noWhen_spec h k v t p hm

/-- May slot d be written: within the frame's size, and nothing hangs on it. -/
def canPut (n : Nat) (gs : List Nat) (d : Nat) (fr : Fr) : Bool :=
  match Nat.blt d n with
  | true => match elemN d gs with
    | true => noWhen d fr
    | false => true
  | false => false

/-- Every guard that the frame's entries hang on is one of gs. -/
def WhenIn (gs : List Nat) (fr : Fr) : Prop := ∀ k v t p, (k, v, some (t, p)) ∈ fr → t ∈ gs

theorem canPut_spec {n : Nat} {gs : List Nat} {d : Nat} {fr : Fr} (hg : WhenIn gs fr) (h : canPut n gs d fr = true) : d < n ∧ ∀ k v t p, (k, v, some (t, p)) ∈ fr → t ≠ d := by
  unfold canPut at h
  split at h
  · rename_i hlt
    refine ⟨by simpa [Nat.blt_eq] using hlt, ?_⟩
    split at h
    · exact noWhen_spec h
    · rename_i he
      intro k v t p hm e
      subst e
      exact elemN_false he (hg k v t p hm)
  · cases h

theorem look_mem' {d : Nat} {v : FV} {g : Gd} : ∀ {fr : Fr}, look d fr = some (v, g) → (d, v, g) ∈ fr
  | [], h => by simp [look] at h
  | (k, u, q) :: r, h => by
    unfold look at h
    split at h
    · rename_i hb
      have := Nat.eq_of_beq_eq_true hb
      cases h; subst this; simp
    · exact List.mem_cons_of_mem _ (look_mem' h)

theorem knows_put {β : Nat → Bd} {fr : Fr} {a : Act} {d : Nat} {v : FV} {x : Value} {g : Gd} (hk : Knows β fr a) (hd : d < a.tmps.size)
    (hn : ∀ k v t p, (k, v, some (t, p)) ∈ fr → t ≠ d) (hx : match g with | none => x = v.den β | some (t, p) => t ≠ d ∧ (a.tmps[t]? = some (.bool p) → x = v.den β) ∧ (a.tmps[t]? ≠ some (.bool p) → x = undef)) :
    Knows β ((d, v, g) :: fr) (a.put (some d) x) := by
  intro d' v' g' hl
  have hself : (a.put (some d) x).tmps[d]? = some x := by simp [Act.put, hd]
  have hother : ∀ k, k ≠ d → (a.put (some d) x).tmps[k]? = a.tmps[k]? := fun k hkd => by simp [Act.put, Ne.symm hkd]
  simp only [look] at hl
  split at hl
  · rename_i hb
    have := Nat.eq_of_beq_eq_true hb
    subst this
    cases hl
    cases g with
    | none => simp only at hx ⊢; rw [hself, hx]
    | some q =>
      obtain ⟨t, p⟩ := q
      simp only at hx ⊢
      rw [hother t hx.1, hself]
      exact ⟨fun ht => by rw [hx.2.1 ht], fun ht => by rw [hx.2.2 ht]⟩
  · rename_i hb
    have hne : d' ≠ d := fun e => by subst e; rw [Nat.beq_refl] at hb; cases hb
    have := hk d' v' g' hl
    cases g' with
    | none => simp only at this ⊢; rw [hother d' hne]; exact this
    | some q =>
      obtain ⟨t, p⟩ := q
      simp only at this ⊢
      have htd := hn d' v' t p (look_mem' hl)
      rw [hother t htd, hother d' hne]; exact this

theorem Knows.ext {β β' : Nat → Bd} {fr : Fr} {a : Act} {m : Nat} (hw : ∀ e ∈ fr, e.2.1.wf m) (hb : ∀ i, i < m → β' i = β i) (hk : Knows β fr a) : Knows β' fr a := by
  intro d v g hl
  have hv : v.wf m := by
    obtain ⟨e, he, h1, _⟩ := look_mem hl
    have := hw e he; rw [h1] at this; exact this
  have := hk d v g hl
  rw [FV.den_ext hb hv]; exact this

/-- The Bool of temporary t: whether it was written, and its value. -/
def gcond (fr : Fr) : Nat → Nat → Option (Bool × Bool)
  | 0, _ => none
  | f + 1, t => match look t fr with
    | some (.t (.s (.bool b)), none) => some (true, b)
    | some (.t (.s (.bool b)), some (t', p')) => match gcond fr f t' with
      | some (w, b') => some (w && (b' == p'), b)
      | none => none
    | _ => none
theorem gcond_spec {β : Nat → Bd} {fr : Fr} {a : Act} (hk : Knows β fr a) : ∀ {f t : Nat} {w b : Bool}, gcond fr f t = some (w, b) → (w = true → a.tmps[t]? = some (.bool b)) ∧ (w = false → a.tmps[t]? = some undef)
  | 0, _, _, _, h => by simp [gcond] at h
  | f + 1, t, w, b, h => by
    unfold gcond at h
    split at h
    · rename_i b0 hl
      cases h
      have := hk t _ _ hl
      exact ⟨fun _ => this, fun h => by cases h⟩
    · rename_i b0 t' p' hl
      split at h
      · rename_i w' b' hg
        cases h
        have ih := gcond_spec hk hg
        have hk' := hk t _ _ hl
        refine ⟨fun hw => ?_, fun hw => ?_⟩
        · simp only [Bool.and_eq_true, beq_iff_eq] at hw
          obtain ⟨h1, rfl⟩ := hw
          exact hk'.1 (ih.1 h1)
        · refine hk'.2 fun he => ?_
          cases w' with
          | false => rw [ih.2 rfl] at he; simp [undef] at he
          | true =>
            rw [ih.1 rfl] at he
            simp only [Option.some.injEq, Value.bool.injEq] at he
            simp [he] at hw
      · cases h
    · cases h

/-! ### Well-formed, reckoned -/
def SV.wfB (m : Nat) : SV → Bool
  | .loc i _ => Nat.blt i m
  | .sl i _ _ _ => Nat.blt i m
  | .raw v => v.oneCell'
  | .mp i => Nat.blt i m
  | _ => true
def allB {α : Type} (f : α → Bool) : List α → Bool
  | [] => true
  | x :: l => match f x with
    | true => allB f l
    | false => false
theorem allB_spec {α : Type} {f : α → Bool} : ∀ {l : List α}, allB f l = true → ∀ x ∈ l, f x = true
  | [], _ => by simp
  | x :: l, h => by
    unfold allB at h
    split at h
    · rename_i hx
      intro y hy
      rcases List.mem_cons.1 hy with rfl | hy
      · exact hx
      · exact allB_spec h y hy
    · cases h
def TV.wfB (m : Nat) : TV → Bool
  | .s v => v.wfB m
  | .agg l => allB (SV.wfB m) l
  | .clo _ a b => match allB (SV.wfB m) a with
    | true => allB (SV.wfB m) b
    | false => false
  | .bnd _ l => allB (SV.wfB m) l
def FV.wfB (m : Nat) : FV → Bool
  | .t v => v.wfB m
  | .tup l => allB (TV.wfB m) l
theorem SV.wfB_spec {m : Nat} {v : SV} (h : v.wfB m = true) : v.wf m := by
  cases v <;> simp only [SV.wfB, SV.wf] at * <;> first | trivial | (simpa [Nat.blt_eq] using h) | exact h
theorem TV.wfB_spec {m : Nat} {v : TV} (h : v.wfB m = true) : v.wf m := by
  cases v with
  | s v => exact SV.wfB_spec h
  | agg l => exact fun x hx => SV.wfB_spec (allB_spec h x hx)
  | bnd f l => exact fun x hx => SV.wfB_spec (allB_spec h x hx)
  | clo f a b =>
    simp only [TV.wfB] at h
    split at h
    · rename_i ha
      exact ⟨fun x hx => SV.wfB_spec (allB_spec ha x hx), fun x hx => SV.wfB_spec (allB_spec h x hx)⟩
    · cases h
theorem FV.wfB_spec {m : Nat} {v : FV} (h : v.wfB m = true) : v.wf m := by
  cases v with
  | t v => exact TV.wfB_spec h
  | tup l => exact fun x hx => TV.wfB_spec (allB_spec h x hx)

/-! ### The executor -/
/-- The length as a numeral. -/
def lenK {α γ : Type} : List α → (Nat → γ) → γ
  | [], k => k 0
  | [_], k => k 1
  | [_, _], k => k 2
  | [_, _, _], k => k 3
  | [_, _, _, _], k => k 4
  | [_, _, _, _, _], k => k 5
  | [_, _, _, _, _, _], k => k 6
  | [_, _, _, _, _, _, _], k => k 7
  | [_, _, _, _, _, _, _, _], k => k 8
  | [_, _, _, _, _, _, _, _, _], k => k 9
  | [_, _, _, _, _, _, _, _, _, _], k => k 10
  | l, k => k l.length
theorem lenK_eq {α γ : Type} (l : List α) (k : Nat → γ) : lenK l k = k l.length := by
  unfold lenK; split <;> rfl

def guardTmp (all : List Oper) (j : Nat) : Option Nat :=
  match all[j]? with
  | some o => o.dst
  | none => none

def ex (tt : TT) (n : Nat) (gs stops : List Nat) (all : List Oper) (K : List Oper → Fr → List Ch → Prop) : List Oper → Fr → List Ch → Prop
  | [], fr, σ => K [] fr σ
  | o :: rest, fr, σ =>
    match o.dst with
    | none => match evUpd tt fr σ o.op, o.guard with
      | .upd i e cs, none => forceL (σ.set i (.blk e cs)) fun σ' => ex tt n gs stops all K rest fr σ'
      | _, _ => K (o :: rest) fr σ
    | some d => match elemN d stops, canPut n gs d fr with
      | false, true => match o.guard with
        | none => match evNew tt fr o.op with
          | some (e, cs) => lenK σ fun i => forceL (σ ++ [.blk e cs]) fun σ' => ex tt n gs stops all K rest ((d, .t (.s (.loc i 0)), none) :: fr) σ'
          | none => match ev tt fr none σ o.op with
            | .val v => ex tt n gs stops all K rest ((d, v, none) :: fr) σ
            | _ => K (o :: rest) fr σ
        | some (j, p) => match guardTmp all j with
          | some t => match elemN t gs, Nat.beq t d with
            | true, false => match ev tt fr (some (t, p)) σ o.op with
              | .val v => match v.wfB σ.length with
                | true => ex tt n gs stops all K rest ((d, v, some (t, p)) :: fr) σ
                | false => K (o :: rest) fr σ
              | _ => K (o :: rest) fr σ
            | _, _ => K (o :: rest) fr σ
          | none => K (o :: rest) fr σ
      | _, _ => K (o :: rest) fr σ

theorem elemN_true {d : Nat} : ∀ {l : List Nat}, elemN d l = true → d ∈ l
  | [], h => by simp [elemN] at h
  | x :: l, h => by
    unfold elemN at h
    split at h
    · rename_i hx; have := Nat.eq_of_beq_eq_true hx; simp [this]
    · exact List.mem_cons_of_mem _ (elemN_true h)

theorem WhenIn.cons {gs : List Nat} {fr : Fr} {d : Nat} {v : FV} {g : Gd} (h : WhenIn gs fr) (hg : ∀ t p, g = some (t, p) → t ∈ gs) : WhenIn gs ((d, v, g) :: fr) := by
  intro k v' t p hm
  rcases List.mem_cons.1 hm with hm | hm
  · simp only [Prod.mk.injEq] at hm
    exact hg t p hm.2.2.symm
  · exact h k v' t p hm

theorem ex_sound {X : Cx} {tt : TT} (htt : TTok X.P tt) {gs stops : List Nat} {all : List Oper} {Q : Exit → Act → World → Prop} :
    ∀ (l : List Oper) (fr : Fr) (σ : List Ch), WhenIn gs fr → ex tt X.n gs stops all (fun l fr σ => WpL X all Q l fr σ) l fr σ → WpL X all Q l fr σ
  | [], fr, σ, _, h => h
  | o :: rest, fr, σ, hg, h => by
    unfold ex at h
    split at h
    · -- no slot: a store
      rename_i hd
      split at h
      · rename_i i e cs hup hgd
        rw [forceL_eq] at h
        refine ⟨fun β a w hr => ?_⟩
        obtain ⟨w', hrun, hs, hsame⟩ := evUpd_sound htt hr.knows hr.frwf hr.mem hup
        refine wpList_skipd (by simp [Region.wanted, hgd]) hrun ?_
        rw [hd]
        have hsrc : ∀ (l : Nat) (d : Ch), (σ.set i (.blk e cs))[l]? = some d → ∀ g, g ∈ d.rfoot (β l) → X.F g ∨ X.w0.heap.size ≤ g := by
          intro l d hld g hg
          by_cases hil : i = l
          · subst hil
            have hlt : i < σ.length := by have := (List.getElem?_eq_some_iff.1 hld).1; simpa using this
            rw [List.getElem?_set_self hlt] at hld
            cases hld
            simp only [Ch.rfoot, Ch.foot, List.mem_singleton] at hg
            subst hg
            exact hr.src i _ (evUpd_blk hup).choose_spec.choose_spec _ (by simp [Ch.rfoot, Ch.foot])
          · rw [List.getElem?_set_ne hil] at hld
            exact hr.src l d hld g hg
        have ih := ex_sound htt rest fr _ hg h
        exact ih.h β a w' ⟨hr.defers, hr.size, hr.knows, by simpa using hr.frwf, hs, hr.same.trans hsame, hr.agree, by simpa using hr.fits, hsrc⟩
      · exact h
    · rename_i d hd
      split at h
      · rename_i hst hcp
        have hsp := canPut_spec hg hcp
        split at h
        · rename_i hgd
          split at h
          · -- a new block
            rename_i e cs hnew
            rw [lenK_eq, forceL_eq] at h
            refine ⟨fun β a w hr => ?_⟩
            obtain ⟨hrun, hcw⟩ := evNew_sound (β := β) (w := w) htt hr.knows hr.frwf hnew
            refine wpList_val (by simp [Region.wanted, hgd]) hrun ?_
            rw [hd]
            obtain ⟨β', hb, hbn, hsat⟩ := hr.mem.alloc (.blk e cs) (.cells (cs.map (SV.den β)).toArray e) rfl
              (fun x hx => SV.wf_mono (Nat.le_succ _) (hcw x hx)) (fun β' hb _ => by
                simp only [Ch.sat]
                rw [SV.map_ext hb hcw]
                exact ⟨trivial, heap_alloc_new w _⟩)
            have hsrc : ∀ (l : Nat) (d : Ch), (σ ++ [.blk e cs])[l]? = some d → ∀ g, g ∈ d.rfoot (β' l) → X.F g ∨ X.w0.heap.size ≤ g := by
              intro l d hld g hg
              rcases Nat.lt_trichotomy l σ.length with hl | hl | hl
              · rw [List.getElem?_append_left hl] at hld
                rw [hb l hl] at hg
                exact hr.src l d hld g hg
              · subst hl
                rw [List.getElem?_append_right (Nat.le_refl _)] at hld
                simp at hld; subst hld
                rw [hbn] at hg
                simp [Ch.rfoot, Ch.foot] at hg; subst hg
                exact .inr hr.same.size
              · rw [List.getElem?_eq_none (by simp; omega)] at hld; cases hld
            have ih := ex_sound htt rest _ _ (hg.cons (d := d) (v := .t (.s (.loc σ.length 0))) (g := none) (fun _ _ h => by cases h)) h
            refine ih.h β' _ _ ⟨hr.defers, by simpa [Act.put] using hr.size, ?_, ?_, hsat, hr.same.trans (Same.alloc w _), fun i hi => (hb i (Nat.lt_of_lt_of_le hi hr.fits)).trans (hr.agree i hi), by have := hr.fits; simp; omega, hsrc⟩
            · refine knows_put (Knows.ext hr.frwf hb hr.knows) (by rw [hr.size]; exact hsp.1) hsp.2 ?_
              simp [FV.den, TV.den, SV.den, hbn]
            · intro x hx
              simp only [List.length_append, List.length_cons, List.length_nil, Nat.zero_add]
              rcases List.mem_cons.1 hx with rfl | hx
              · simp [FV.wf, TV.wf, SV.wf]
              · exact FV.wf_mono (Nat.le_succ _) (hr.frwf x hx)
          · split at h
            · rename_i v hv
              refine ⟨fun β a w hr => ?_⟩
              obtain ⟨hrun, hvw⟩ := ev_val (g := none) htt hr.knows trivial hr.frwf hr.mem hv
              refine wpList_val (by simp [Region.wanted, hgd]) hrun ?_
              rw [hd]
              have ih := ex_sound htt rest _ _ (hg.cons (d := d) (v := v) (g := none) (fun _ _ h => by cases h)) h
              refine ih.h β _ _ ⟨hr.defers, by simpa [Act.put] using hr.size, ?_, ?_, hr.mem, hr.same, hr.agree, hr.fits, hr.src⟩
              · exact knows_put hr.knows (by rw [hr.size]; exact hsp.1) hsp.2 rfl
              · intro x hx
                rcases List.mem_cons.1 hx with rfl | hx
                · exact hvw
                · exact hr.frwf x hx
            · exact h
        · -- guarded
          rename_i j p hgd
          split at h
          · rename_i t ht
            split at h
            · rename_i htg htd
              have htne : t ≠ d := fun e => by subst e; rw [Nat.beq_refl] at htd; cases htd
              split at h
              · rename_i v hv
                split at h
                case h_2 => exact h
                rename_i hwfb
                have ih := ex_sound htt rest _ _ (hg.cons (d := d) (v := v) (g := some (t, p)) (fun t' p' h => by cases h; exact elemN_true htg)) h
                refine ⟨fun β a w hr => ?_⟩
                have hy : yielded all.toArray a.tmps j = match a.tmps[t]? with | some (.bool b) => some b | _ => none := by
                  unfold guardTmp at ht
                  split at ht
                  · rename_i oj hj
                    simp [yielded, hj, ht]
                    rfl
                  · cases ht
                by_cases hu : a.tmps[t]? = some (.bool p)
                · obtain ⟨hrun, hvw⟩ := ev_val htt (g := some (t, p)) hr.knows hu hr.frwf hr.mem hv
                  refine wpList_val (by simp [Region.wanted, hgd, hy, hu]) hrun ?_
                  rw [hd]
                  refine ih.h β _ _ ⟨hr.defers, by simpa [Act.put] using hr.size, ?_, ?_, hr.mem, hr.same, hr.agree, hr.fits, hr.src⟩
                  · exact knows_put hr.knows (by rw [hr.size]; exact hsp.1) hsp.2 ⟨htne, fun _ => rfl, fun h' => absurd hu h'⟩
                  · intro x hx
                    rcases List.mem_cons.1 hx with rfl | hx
                    · exact hvw
                    · exact hr.frwf x hx
                · have hnw : Region.wanted o (yielded all.toArray a.tmps) = false := by
                    simp only [Region.wanted, hgd, hy]
                    cases hq : a.tmps[t]? with
                    | none => rfl
                    | some u =>
                      cases u <;> try rfl
                      rename_i b
                      have : b ≠ p := fun e => hu (by rw [hq, e])
                      simpa using this
                  refine wpList_skip hnw ?_
                  rw [hd]
                  refine ih.h β _ _ ⟨hr.defers, by simpa [Act.put] using hr.size, ?_, ?_, hr.mem, hr.same, hr.agree, hr.fits, hr.src⟩
                  · exact knows_put hr.knows (by rw [hr.size]; exact hsp.1) hsp.2 ⟨htne, fun h' => absurd h' hu, fun _ => rfl⟩
                  · intro x hx
                    rcases List.mem_cons.1 hx with rfl | hx
                    · exact FV.wfB_spec hwfb
                    · exact hr.frwf x hx
              · exact h
            · exact h
          · exact h
      · exact h

end Go.Sx

namespace Go.Sx
open Go

def SV.rn (ρ : Nat → Nat) : SV → SV
  | .loc i off => .loc (ρ i) off
  | .sl i off len cap => .sl (ρ i) off len cap
  | .mp i => .mp (ρ i)
  | v => v
def TV.rn (ρ : Nat → Nat) : TV → TV
  | .s v => .s (v.rn ρ)
  | .agg l => .agg (l.map (SV.rn ρ))
  | .clo f a b => .clo f (a.map (SV.rn ρ)) (b.map (SV.rn ρ))
  | .bnd f l => .bnd f (l.map (SV.rn ρ))
def FV.rn (ρ : Nat → Nat) : FV → FV
  | .t v => .t (v.rn ρ)
  | .tup l => .tup (l.map (TV.rn ρ))
def mpRn (ρ : Nat → Nat) : List (IntKind × Int × TV) → List (IntKind × Int × TV)
  | [] => []
  | e :: l => (e.1, e.2.1, e.2.2.rn ρ) :: mpRn ρ l
def Ch.rn (ρ : Nat → Nat) : Ch → Ch
  | .blk e cs => .blk e (cs.map (SV.rn ρ))
  | .mp es => .mp (mpRn ρ es)
  | c => c

theorem SV.den_rn {β : Nat → Bd} {ρ : Nat → Nat} (v : SV) : (v.rn ρ).den β = v.den (fun k => β (ρ k)) := by cases v <;> rfl
theorem SV.map_rn {β : Nat → Bd} {ρ : Nat → Nat} (l : List SV) : (l.map (SV.rn ρ)).map (SV.den β) = l.map (SV.den fun k => β (ρ k)) := by
  rw [List.map_map]; exact List.map_congr_left fun v _ => SV.den_rn v
theorem TV.den_rn {β : Nat → Bd} {ρ : Nat → Nat} (v : TV) : (v.rn ρ).den β = v.den (fun k => β (ρ k)) := by
  cases v <;> simp only [TV.rn, TV.den, SV.den_rn, SV.map_rn]
theorem FV.den_rn {β : Nat → Bd} {ρ : Nat → Nat} (v : FV) : (v.rn ρ).den β = v.den (fun k => β (ρ k)) := by
  cases v with
  | t v => exact TV.den_rn v
  | tup l =>
    have : l.map (TV.den β ∘ TV.rn ρ) = l.map (TV.den fun k => β (ρ k)) := List.map_congr_left fun v _ => TV.den_rn v
    simp only [FV.rn, FV.den, List.map_map, this]
theorem mpEs_rn {β : Nat → Bd} {ρ : Nat → Nat} : ∀ (l : List (IntKind × Int × TV)) (i : Nat), mpEs β i (mpRn ρ l) = mpEs (fun k => β (ρ k)) i l
  | [], _ => rfl
  | e :: l, i => by simp only [mpRn, mpEs, TV.den_rn, mpEs_rn l]
theorem mpRn_len {ρ : Nat → Nat} : ∀ (l : List (IntKind × Int × TV)), (mpRn ρ l).length = l.length
  | [] => rfl
  | e :: l => by simp only [mpRn, List.length_cons, mpRn_len l]
theorem mpRn_mem {ρ : Nat → Nat} : ∀ {l : List (IntKind × Int × TV)} {x}, x ∈ mpRn ρ l → ∃ e ∈ l, x.2.2 = e.2.2.rn ρ
  | [], x, h => by simp [mpRn] at h
  | e :: l, x, h => by
    rcases List.mem_cons.1 h with rfl | h
    · exact ⟨e, by simp, rfl⟩
    · obtain ⟨e', he, h'⟩ := mpRn_mem h
      exact ⟨e', by simp [he], h'⟩
theorem Ch.sat_rn {β : Nat → Bd} {ρ : Nat → Nat} {b : Bd} {w : World} (c : Ch) : (c.rn ρ).sat β b w ↔ c.sat (fun k => β (ρ k)) b w := by
  cases c <;> simp only [Ch.rn, Ch.sat, SV.map_rn, mpEs_rn, mpRn_len]
theorem Ch.foot_rn {ρ : Nat → Nat} {b : Bd} (c : Ch) : (c.rn ρ).foot b = c.foot b := by cases c <;> rfl
theorem Ch.rfoot_rn {ρ : Nat → Nat} {b : Bd} (c : Ch) : (c.rn ρ).rfoot b = c.rfoot b := by cases c <;> rfl
theorem SV.wf_rn {ρ : Nat → Nat} {m m' : Nat} (h : ∀ k, k < m → ρ k < m') {v : SV} (hv : v.wf m) : (v.rn ρ).wf m' := by
  cases v <;> simp only [SV.rn, SV.wf] at * <;> first | exact h _ hv | exact hv
theorem TV.wf_rn {ρ : Nat → Nat} {m m' : Nat} (h : ∀ k, k < m → ρ k < m') {v : TV} (hv : v.wf m) : (v.rn ρ).wf m' := by
  cases v with
  | s v => exact SV.wf_rn h hv
  | agg l => intro x hx; obtain ⟨y, hy, rfl⟩ := List.mem_map.1 hx; exact SV.wf_rn h (hv y hy)
  | bnd f l => intro x hx; obtain ⟨y, hy, rfl⟩ := List.mem_map.1 hx; exact SV.wf_rn h (hv y hy)
  | clo f a b =>
    refine ⟨?_, ?_⟩
    · intro x hx; obtain ⟨y, hy, rfl⟩ := List.mem_map.1 hx; exact SV.wf_rn h (hv.1 y hy)
    · intro x hx; obtain ⟨y, hy, rfl⟩ := List.mem_map.1 hx; exact SV.wf_rn h (hv.2 y hy)
theorem FV.wf_rn {ρ : Nat → Nat} {m m' : Nat} (h : ∀ k, k < m → ρ k < m') {v : FV} (hv : v.wf m) : (v.rn ρ).wf m' := by
  cases v with
  | t v => exact TV.wf_rn h hv
  | tup l => intro x hx; obtain ⟨y, hy, rfl⟩ := List.mem_map.1 hx; exact TV.wf_rn h (hv y hy)
theorem Ch.wf_rn {ρ : Nat → Nat} {m m' : Nat} (h : ∀ k, k < m → ρ k < m') {c : Ch} (hc : c.wf m) : (c.rn ρ).wf m' := by
  cases c with
  | blk e cs => intro x hx; obtain ⟨y, hy, rfl⟩ := List.mem_map.1 hx; exact SV.wf_rn h (hc y hy)
  | mp es => intro x hx; obtain ⟨y, hy, e⟩ := mpRn_mem hx; rw [e]; exact TV.wf_rn h (hc y hy)
  | _ => trivial

/-- The blocks that the chunks' facts hang on. -/
def Feet (β : Nat → Bd) (σ : List Ch) (g : Nat) : Prop := ∃ (k : Nat) (c : Ch), σ[k]? = some c ∧ g ∈ c.rfoot (β k)

/-- A CONTRACT: called with these arguments over these chunks the function returns; for some x with pc x the value is fv x, the chunks are σ1 x (those that came in keep their places). -/
structure TriS (P : Program) (f : FuncId) (args : List TV) (σ0 : List Ch) {γ : Type} (pc : γ → Prop) (fv : γ → FV) (σ1 : γ → List Ch) : Prop where
  h : ∀ (β : Nat → Bd) (φ : Heap) (w : World), Sat β σ0 φ w → Calls P f (args.map (TV.den β)).toArray w fun e w' =>
    ∃ x β', pc x ∧ (∀ i, i < σ0.length → β' i = β i) ∧ σ0.length ≤ (σ1 x).length ∧ e = .returned ((fv x).den β') ∧ (fv x).wf (σ1 x).length ∧ Sat β' (σ1 x) φ w' ∧ Same w w' ∧
      ∀ (l : Nat) (d : Ch), (σ1 x)[l]? = some d → ∀ g, g ∈ d.rfoot (β' l) → Feet β σ0 g ∨ w.heap.size ≤ g

/-- What a function's end owes. -/
def Leaves (φ : Heap) (w0 : World) (m : Nat) (β0 : Nat → Bd) (F : Nat → Prop) {γ : Type} (pc : γ → Prop) (fv : γ → FV) (σ1 : γ → List Ch) (e : Ending) (w' : World) : Prop :=
  ∃ x β', pc x ∧ (∀ i, i < m → β' i = β0 i) ∧ m ≤ (σ1 x).length ∧ e = .returned ((fv x).den β') ∧ (fv x).wf (σ1 x).length ∧ Sat β' (σ1 x) φ w' ∧ Same w0 w' ∧
    ∀ (l : Nat) (d : Ch), (σ1 x)[l]? = some d → ∀ g, g ∈ d.rfoot (β' l) → F g ∨ w0.heap.size ≤ g

def frameOf : Nat → List TV → Fr
  | _, [] => []
  | k, v :: l => (k, .t v, none) :: frameOf (k + 1) l

theorem look_frameOf {d : Nat} {v : FV} {g : Gd} : ∀ {l : List TV} {k : Nat}, look d (frameOf k l) = some (v, g) → g = none ∧ ∃ u, l[d - k]? = some u ∧ k ≤ d ∧ v = .t u
  | [], k, h => by simp [frameOf, look] at h
  | u :: l, k, h => by
    simp only [frameOf, look] at h
    split at h
    · rename_i hb
      have := Nat.eq_of_beq_eq_true hb
      subst this
      cases h
      exact ⟨rfl, u, by simp, Nat.le_refl _, rfl⟩
    · rename_i hb
      have hne : d ≠ k := fun e => by subst e; rw [Nat.beq_refl] at hb; cases hb
      obtain ⟨h1, u', h2, h3, h4⟩ := look_frameOf h
      refine ⟨h1, u', ?_, by omega, h4⟩
      rw [show d - k = (d - (k + 1)) + 1 by omega]
      simpa using h2

/-- ENTERING a function. -/
theorem enter {P : Program} {f : FuncId} {fn : Func} {c : Code} {args : List TV} {σ0 : List Ch} {γ : Type} {pc : γ → Prop} {fv : γ → FV} {σ1 : γ → List Ch} {n : Nat}
    (hf : P.funcs[f]? = some fn) (hb : fn.body = some c) (hn : fn.ntmps = n) (hargs : allB (TV.wfB σ0.length) args = true) (hle : Nat.ble args.length n = true)
    (h : ∀ φ w0 β0 F, WpC ⟨P, n, φ, w0, σ0.length, β0, F, none, []⟩ c (bodyPost P fn (Leaves φ w0 σ0.length β0 F pc fv σ1)) (frameOf 0 args) σ0) : TriS P f args σ0 pc fv σ1 := by
  refine ⟨fun β φ w hs => ?_⟩
  refine calls_of_wp hf hb ?_
  refine (h φ w β (Feet β σ0)).h β _ w ⟨rfl, ?_, ?_, ?_, hs, Same.refl w, fun _ _ => rfl, Nat.le_refl _, fun l d hd g hg => .inl ⟨l, d, hd, hg⟩⟩
  · have := Nat.le_of_ble_eq_true hle
    simp [hn]; omega
  · intro d v g hl
    obtain ⟨rfl, u, hu, _, rfl⟩ := look_frameOf hl
    simp only [Nat.sub_zero] at hu
    have hd := (List.getElem?_eq_some_iff.1 hu).1
    rw [Array.getElem?_append_left (by simpa using hd)]
    simp [hu, FV.den]
  · intro e he
    have : ∀ (l : List TV) (k : Nat), (∀ x ∈ l, x.wf σ0.length) → ∀ e ∈ frameOf k l, e.2.1.wf σ0.length := by
      intro l
      induction l with
      | nil => intro k _ e he; simp [frameOf] at he
      | cons u l ih =>
        intro k hw e he
        simp only [frameOf, List.mem_cons] at he
        rcases he with rfl | he
        · exact hw u (by simp)
        · exact ih (k + 1) (fun x hx => hw x (by simp [hx])) e he
    exact this args 0 (fun x hx => TV.wfB_spec (allB_spec hargs x hx)) e he

/-! ### Code -/
structure WpE (X : Cx) (Q : Exit → Act → World → Prop) (e : Exit) (fr : Fr) (σ : List Ch) : Prop where
  h : ∀ β a w, Rep X β fr σ a w → Q e a w

section
variable {X : Cx} {Q : Exit → Act → World → Prop} {fr : Fr} {σ : List Ch}

theorem c_skip (h : WpE X Q .normal fr σ) : WpC X .skip Q fr σ := ⟨fun β a w hr => cd_skip (h.h β a w hr)⟩
theorem c_exit {id : Nat} (h : WpE X Q (.exit id) fr σ) : WpC X (.exit id) Q fr σ := ⟨fun β a w hr => cd_exit (h.h β a w hr)⟩
theorem c_goto {id : Nat} (h : WpE X Q (.goto id) fr σ) : WpC X (.goto id) Q fr σ := ⟨fun β a w hr => cd_goto (h.h β a w hr)⟩
theorem c_ret (h : WpE X Q .ret fr σ) : WpC X .ret Q fr σ := ⟨fun β a w hr => cd_ret (h.h β a w hr)⟩
theorem c_seq {x y : Code} (h : WpC X x (Exit.then (fun a w => cdW X.fe X.P y Q a w) Q) fr σ) : WpC X (.seq x y) Q fr σ := ⟨fun β a w hr => cd_seq (h.h β a w hr)⟩
theorem c_block {id : Nat} {c : Code} (h : WpC X c (Exit.inBlock id Q) fr σ) : WpC X (.block id c) Q fr σ := ⟨fun β a w hr => cd_block (h.h β a w hr)⟩
theorem c_if {c : Operand} {x y : Code} {b : Bool} (hb : opd fr none c = some (.s (.bool b))) (ht : b = true → WpC X x Q fr σ) (hf : b = false → WpC X y Q fr σ) : WpC X (.cond c x y) Q fr σ :=
  ⟨fun β a w hr => cd_if (opd_sound (g := none) hr.knows trivial hb) (fun h => (ht h).h β a w hr) (fun h => (hf h).h β a w hr)⟩

theorem e_then {y : Code} (h : WpC X y Q fr σ) : WpE X (Exit.then (fun a w => cdW X.fe X.P y Q a w) Q) .normal fr σ := ⟨fun β a w hr => h.h β a w hr⟩
theorem e_then_ret {K : Act → World → Prop} (h : WpE X Q .ret fr σ) : WpE X (Exit.then K Q) .ret fr σ := ⟨h.h⟩
theorem e_then_exit {K : Act → World → Prop} {id : Nat} (h : WpE X Q (.exit id) fr σ) : WpE X (Exit.then K Q) (.exit id) fr σ := ⟨h.h⟩
theorem e_blk {id : Nat} (h : WpE X Q .normal fr σ) : WpE X (Exit.inBlock id Q) .normal fr σ := ⟨h.h⟩
theorem e_blk_ret {id : Nat} (h : WpE X Q .ret fr σ) : WpE X (Exit.inBlock id Q) .ret fr σ := ⟨h.h⟩
theorem e_blk_here {id : Nat} (h : WpE X Q .normal fr σ) : WpE X (Exit.inBlock id Q) (.exit id) fr σ := ⟨fun β a w hr => by simp only [Exit.inBlock, if_true]; exact h.h β a w hr⟩
theorem e_blk_pass {id id' : Nat} (hne : Nat.beq id' id = false) (h : WpE X Q (.exit id') fr σ) : WpE X (Exit.inBlock id Q) (.exit id') fr σ :=
  ⟨fun β a w hr => by
    have : id' ≠ id := fun e => by subst e; rw [Nat.beq_refl] at hne; cases hne
    simp only [Exit.inBlock, if_neg this]; exact h.h β a w hr⟩

/-- What the frame keeps: these slots alone, if they hang on nothing. -/
def keepK {γ : Type} : List Nat → Fr → (Fr → γ) → γ
  | [], _, k => k []
  | d :: l, fr, k => match look d fr with
    | some (v, none) => keepK l fr fun r => k ((d, v, none) :: r)
    | _ => keepK l fr k
def keep : List Nat → Fr → Fr
  | [], _ => []
  | d :: l, fr => match look d fr with
    | some (v, none) => (d, v, none) :: keep l fr
    | _ => keep l fr
theorem keepK_eq {γ : Type} : ∀ (l : List Nat) (fr : Fr) (k : Fr → γ), keepK l fr k = k (keep l fr)
  | [], _, _ => rfl
  | d :: l, fr, k => by
    simp only [keepK, keep]
    split <;> simp only [keepK_eq l fr]

theorem keep_mem {d : Nat} {v : FV} {g : Gd} : ∀ {l : List Nat}, (d, v, g) ∈ keep l fr → g = none ∧ look d fr = some (v, none)
  | [], h => by simp [keep] at h
  | e :: l, h => by
    simp only [keep] at h
    split at h
    · rename_i u hu
      rcases List.mem_cons.1 h with h | h
      · cases h; exact ⟨rfl, hu⟩
      · exact keep_mem h
    · exact keep_mem h

theorem Rep.keep {β : Nat → Bd} {a : Act} {w : World} (hr : Rep X β fr σ a w) (l : List Nat) : Rep X β (Sx.keep l fr) σ a w := by
  refine ⟨hr.defers, hr.size, ?_, ?_, hr.mem, hr.same, hr.agree, hr.fits, hr.src⟩
  · intro d v g hl
    obtain ⟨rfl, hk⟩ := keep_mem (look_mem' hl)
    exact hr.knows d v none hk
  · intro e he
    obtain ⟨d, v, g⟩ := e
    obtain ⟨rfl, hk⟩ := keep_mem he
    exact hr.frwf _ (look_mem' hk)

/-- No entry hangs on another. -/
def plainFr : Fr → Bool
  | [] => true
  | (_, _, none) :: r => plainFr r
  | (_, _, some _) :: _ => false
theorem plainFr_spec {gs : List Nat} : ∀ {fr : Fr}, plainFr fr = true → WhenIn gs fr
  | [], _ => fun _ _ _ _ h => by simp at h
  | (_, _, none) :: r, h => fun k v t p hm => by
    rcases List.mem_cons.1 hm with hm | hm
    · simp at hm
    · exact plainFr_spec (gs := gs) (by simpa [plainFr] using h) k v t p hm
  | (_, _, some _) :: _, h => by simp [plainFr] at h

/-- The guards of a region. -/
def gsOf (all : List Oper) : List Oper → List Nat
  | [] => []
  | o :: l => match o.guard with
    | none => gsOf all l
    | some (j, _) => match guardTmp all j with
      | some t => match elemN t (gsOf all l) with
        | true => gsOf all l
        | false => t :: gsOf all l
      | none => gsOf all l

/-- A REGION: its operations in one go; where the executor stops, what is left; at its end the slots ks. -/
theorem c_region {tt : TT} (htt : TTok X.P tt) (ks stops : List Nat) {id : Nat} {all : List Oper} (hp : plainFr fr = true)
    (h : ex tt X.n (gsOf all all) stops all (fun l fr σ => match l with
      | [] => keepK ks fr fun fr' => WpE X Q .normal fr' σ
      | o :: l => WpL X all Q (o :: l) fr σ) all fr σ) : WpC X (.region id all.toArray false) Q fr σ := by
  refine ⟨fun β a w hr => cd_region ?_⟩
  have : ex tt X.n (gsOf all all) stops all (fun l fr σ => WpL X all Q l fr σ) all fr σ := by
    refine ex_mono ?_ all fr σ h
    intro l fr σ hl
    split at hl
    · rw [keepK_eq] at hl
      exact ⟨fun β a w hr => wpList_nil (hl.h β a w (hr.keep ks))⟩
    · exact hl
  exact (ex_sound htt all fr σ (plainFr_spec hp) this).h β a w hr
  where
  ex_mono {tt : TT} {n : Nat} {gs stops : List Nat} {all : List Oper} {K K' : List Oper → Fr → List Ch → Prop} (hK : ∀ l fr σ, K l fr σ → K' l fr σ) :
      ∀ (l : List Oper) (fr : Fr) (σ : List Ch), ex tt n gs stops all K l fr σ → ex tt n gs stops all K' l fr σ
    | [], fr, σ, h => hK _ _ _ h
    | o :: rest, fr, σ, h => by
      have ih := ex_mono (tt := tt) (n := n) (gs := gs) (stops := stops) (all := all) hK rest
      unfold ex at h ⊢
      split at h
      · split at h
        · rw [forceL_eq] at h ⊢; exact ih _ _ h
        · exact hK _ _ _ h
      · split at h
        · split at h
          · split at h
            · rw [lenK_eq, forceL_eq] at h ⊢; exact ih _ _ h
            · split at h
              · exact ih _ _ h
              · exact hK _ _ _ h
          · split at h
            · split at h
              · split at h
                · split at h
                  · exact ih _ _ h
                  · exact hK _ _ _ h
                · exact hK _ _ _ h
              · exact hK _ _ _ h
            · exact hK _ _ _ h
        · exact hK _ _ _ h

end
end Go.Sx

namespace Go.Sx
open Go

/-- The results, read off the frame. -/
def resL (tt : TT) (fr : Fr) (σ : List Ch) : List ResultVar → Option (List TV)
  | [] => some []
  | .tmp t :: l => match opd fr none (.tmp t), resL tt fr σ l with
    | some v, some r => some (v :: r)
    | _, _ => none
  | .cell a t :: l => match opd fr none (.tmp a) with
    | some p => match evLoad tt σ t p, resL tt fr σ l with
      | .val (.t v), some r => some (v :: r)
      | _, _ => none
    | none => none

def packF : List TV → FV
  | [v] => .t v
  | l => .tup l

theorem evLoad_loc {tt : TT} {σ : List Ch} {t : Nat} {p : TV} {v : FV} (h : evLoad tt σ t p = .val v) : ∃ i off, p = .s (.loc i off) := by
  unfold evLoad at h
  split at h
  · exact ⟨_, _, rfl⟩
  · cases h

def resOne (tmps : Array Value) : ResultVar → Sem Value
  | .tmp t => pure (tmps.getD t undef)
  | .cell a t => do loadVar t (← asAddr (tmps.getD a undef))
theorem results_eq (fn : Func) (tmps : Array Value) : results fn tmps = (do let vs ← fn.results.mapM (resOne tmps); pure (if h : vs.size = 1 then vs[0] else .tuple vs)) := by
  unfold results
  have : (fun (x : ResultVar) => match x with | .tmp t => (pure (tmps.getD t undef) : Sem Value) | .cell a t => do loadVar t (← asAddr (tmps.getD a undef))) = resOne tmps := by
    funext x; cases x <;> rfl
  rw [← this]; rfl

theorem resL_sound {X : Cx} {tt : TT} (htt : TTok X.P tt) {β : Nat → Bd} {fr : Fr} {σ : List Ch} {a : Act} {w : World} (hr : Rep X β fr σ a w) :
    ∀ {rs : List ResultVar} {l : List TV}, resL tt fr σ rs = some l →
      (rs.mapM (resOne a.tmps)).run X.P w = .ok (l.map (TV.den β)) w ∧ ∀ v ∈ l, v.wf σ.length
  | [], l, h => by simp [resL] at h; subst h; simp
  | .tmp t :: rs, l, h => by
    simp only [resL] at h
    split at h
    · rename_i v r hv hrr
      cases h
      have ih := resL_sound htt hr hrr
      have he := opd_sound (g := none) hr.knows trivial hv
      simp only [Act.eval] at he
      refine ⟨?_, ?_⟩
      · simp only [List.mapM_cons, resOne, Sem.run_bind, Sem.run_pure, Result.andThen_ok, ih.1, he, List.map_cons]
      · intro u hu
        rcases List.mem_cons.1 hu with rfl | hu
        · exact opd_wf hr.frwf hv
        · exact ih.2 u hu
    · cases h
  | .cell p t :: rs, l, h => by
    simp only [resL] at h
    split at h
    · rename_i q hq
      split at h
      · rename_i v r hv hrr
        cases h
        have ih := resL_sound htt hr hrr
        have he := opd_sound (g := none) hr.knows trivial hq
        simp only [Act.eval] at he
        have hl := evLoad_sound htt hr.mem hv
        obtain ⟨i, off, rfl⟩ := evLoad_loc hv
        refine ⟨?_, ?_⟩
        · have hl1 := hl.1
          simp only [Instr.loadAt, TV.den, SV.den, Instr.sureAddr, Sem.run_bind, Sem.run_pure, Result.andThen_ok] at hl1
          simp only [List.mapM_cons, resOne, Sem.run_bind, Result.andThen_ok, he, TV.den, SV.den, asAddr, Sem.run_pure, hl1, ih.1]
          rfl
        · intro u hu
          rcases List.mem_cons.1 hu with rfl | hu
          · exact hl.2
          · exact ih.2 u hu
      · cases h
    · cases h

theorem results_sound {X : Cx} {tt : TT} (htt : TTok X.P tt) {β : Nat → Bd} {fr : Fr} {σ : List Ch} {a : Act} {w : World} (hr : Rep X β fr σ a w) {fn : Func} {rs : List ResultVar} (hrs : fn.results = rs.toArray) {l : List TV}
    (h : resL tt fr σ rs = some l) : (results fn a.tmps).run X.P w = .ok ((packF l).den β) w ∧ (packF l).wf σ.length := by
  have hs := resL_sound htt hr h
  have hlen : (l.map (TV.den β)).length = l.length := by simp
  refine ⟨?_, ?_⟩
  · rw [results_eq, hrs, Array.mapM_eq_mapM_toList]
    simp only [Sem.run_bind, Sem.run_map, hs.1, Result.andThen_ok, Sem.run_pure]
    match l with
    | [] => rfl
    | [v] => rfl
    | u :: v :: l => simp [packF, FV.den]
  · match l, hs.2 with
    | [], _ => intro x hx; simp at hx
    | [v], h2 => exact h2 v (by simp)
    | u :: v :: l, h2 => exact h2

def nodupB : List Nat → Bool
  | [] => true
  | x :: l => match elemN x l with
    | true => false
    | false => nodupB l
theorem nodupB_spec : ∀ {l : List Nat}, nodupB l = true → l.Nodup
  | [], _ => by simp
  | x :: l, h => by
    unfold nodupB at h
    split at h
    · cases h
    · rename_i he
      exact List.nodup_cons.2 ⟨elemN_false he, nodupB_spec h⟩

/-- sel begins with 0, 1, .., m - 1. -/
def selOk : Nat → Nat → List Nat → Bool
  | _, 0, _ => true
  | k, m + 1, x :: l => match Nat.beq x k with
    | true => selOk (k + 1) m l
    | false => false
  | _, _ + 1, [] => false
theorem selOk_spec : ∀ {m k : Nat} {l : List Nat}, selOk k m l = true → ∀ i, i < m → l[i]? = some (k + i)
  | 0, _, _, _, i, hi => by omega
  | m + 1, k, [], h, _, _ => by simp [selOk] at h
  | m + 1, k, x :: l, h, i, hi => by
    unfold selOk at h
    split at h
    · rename_i hb
      have := Nat.eq_of_beq_eq_true hb
      subst this
      cases i with
      | zero => simp
      | succ i =>
        have := selOk_spec h i (by omega)
        simp only [List.getElem?_cons_succ]
        rw [this]; congr 1; omega
    · cases h

/-- The chunks at these places. -/
def pickL (σ : List Ch) : List Nat → Option (List Ch)
  | [] => some []
  | i :: l => match σ[i]?, pickL σ l with
    | some c, some r => some (c :: r)
    | _, _ => none
theorem pickL_get {σ : List Ch} : ∀ {sel : List Nat} {r : List Ch}, pickL σ sel = some r → ∀ (k : Nat) (c : Ch), r[k]? = some c → ∃ i : Nat, sel[k]? = some i ∧ σ[i]? = some c
  | [], r, h, k, c, hc => by simp [pickL] at h; subst h; simp at hc
  | i :: sel, r, h, k, c, hc => by
    simp only [pickL] at h
    split at h
    · rename_i c' r' hc' hr'
      cases h
      cases k with
      | zero => simp at hc; subst hc; exact ⟨i, rfl, hc'⟩
      | succ k => simpa using pickL_get hr' k c (by simpa using hc)
    · cases h
theorem pickL_len {σ : List Ch} : ∀ {sel : List Nat} {r : List Ch}, pickL σ sel = some r → r.length = sel.length
  | [], r, h => by simp [pickL] at h; subst h; rfl
  | i :: sel, r, h => by
    simp only [pickL] at h
    split at h
    · rename_i c' r' hc' hr'; cases h; simp [pickL_len hr']
    · cases h

def Ch.wfB (m : Nat) : Ch → Bool
  | .blk _ cs => allB (SV.wfB m) cs
  | .mp es => allB (fun e => e.2.2.wfB m) es
  | _ => true
theorem Ch.wfB_spec {m : Nat} {c : Ch} (h : c.wfB m = true) : c.wf m := by
  cases c with
  | blk e cs => exact fun x hx => SV.wfB_spec (allB_spec h x hx)
  | mp es => exact fun x hx => TV.wfB_spec (allB_spec h x hx)
  | _ => trivial

/-- Chosen chunks, under their new numbers, hold. -/
theorem Sat.select {β : Nat → Bd} {σ τ : List Ch} {φ : Heap} {w : World} (h : Sat β σ φ w) {sel : List Nat} (hnd : sel.Nodup) (hp : pickL σ sel = some (τ.map (Ch.rn fun k => sel.getD k 0)))
    (hw : ∀ c ∈ τ, c.wf τ.length) : Sat (fun k => β (sel.getD k 0)) τ φ w := by
  have get : ∀ (k : Nat) (c : Ch), τ[k]? = some c → ∃ i : Nat, sel[k]? = some i ∧ σ[i]? = some (c.rn fun k => sel.getD k 0) ∧ sel.getD k 0 = i := by
    intro k c hc
    obtain ⟨i, hi, hs⟩ := pickL_get hp k (c.rn fun k => sel.getD k 0) (by simp [hc])
    exact ⟨i, hi, hs, by simp [List.getD, hi]⟩
  have inj : ∀ k k' i : Nat, sel[k]? = some i → sel[k']? = some i → k = k' := by
    intro k k' i h1 h2
    have hk := (List.getElem?_eq_some_iff.1 h1).1
    have hk' := (List.getElem?_eq_some_iff.1 h2).1
    exact (List.getElem_inj hnd (i := k) (j := k')).1 (by rw [(List.getElem?_eq_some_iff.1 h1).2, (List.getElem?_eq_some_iff.1 h2).2])
  refine ⟨?_, ?_, ?_, h.frame, hw⟩
  · intro i j c d hc hd hij g hg hg'
    obtain ⟨i', h1, h2, h3⟩ := get i c hc
    obtain ⟨j', k1, k2, k3⟩ := get j d hd
    simp only [h3] at hg
    simp only [k3] at hg'
    refine h.disj i' j' _ _ h2 k2 (fun e => hij (inj i j i' h1 (e ▸ k1))) g (by rw [Ch.foot_rn]; exact hg) (by rw [Ch.rfoot_rn]; exact hg')
  · intro i c hc g hg
    obtain ⟨i', h1, h2, h3⟩ := get i c hc
    simp only [h3] at hg
    exact h.off i' _ h2 g (by rw [Ch.foot_rn]; exact hg)
  · intro i c hc
    obtain ⟨i', h1, h2, h3⟩ := get i c hc
    simp only [h3]
    exact (Ch.sat_rn c).1 (h.sat i' _ h2)

/-- LEAVING a function by return (or at its end). -/
theorem leaves {X : Cx} {tt : TT} (htt : TTok X.P tt) {fr : Fr} {σ : List Ch} {fn : Func} {γ : Type} {pc : γ → Prop} {fv : γ → FV} {σ1 : γ → List Ch} {rs : List ResultVar} (hrs : fn.results = rs.toArray) {l : List TV}
    (h : resL tt fr σ rs = some l) (x : γ) (sel : List Nat) (hx : pc x) (hv : packF l = (fv x).rn fun k => sel.getD k 0)
    (hp : pickL σ sel = some ((σ1 x).map (Ch.rn fun k => sel.getD k 0))) (hs : selOk 0 X.m sel = true) (hnd : nodupB sel = true)
    (hw1 : (fv x).wfB (σ1 x).length = true) (hw2 : allB (Ch.wfB (σ1 x).length) (σ1 x) = true) (hds : X.ds = []) :
    ∀ β a w, Rep X β fr σ a w → a.defers = [] ∧ ∃ v, (results fn a.tmps).run X.P w = .ok v w ∧ Leaves X.φ X.w0 X.m X.β0 X.F pc fv σ1 (.returned v) w := by
  intro β a w hr
  have hres := results_sound htt hr hrs h
  refine ⟨hr.defers.trans hds, _, hres.1, x, fun k => β (sel.getD k 0), hx, ?_, ?_, ?_, FV.wfB_spec hw1, ?_, hr.same, ?_⟩
  · intro i hi
    have := selOk_spec hs i hi
    simp only [Nat.zero_add] at this
    have e : sel.getD i 0 = i := by simp [this]
    show β (sel.getD i 0) = X.β0 i
    rw [e]; exact hr.agree i hi
  · have := pickL_len hp
    simp at this
    rw [this]
    rcases Nat.lt_or_ge sel.length X.m with hlt | hge
    · have := selOk_spec hs sel.length hlt
      simp at this
    · exact hge
  · rw [hv, FV.den_rn]
  · exact hr.mem.select (nodupB_spec hnd) hp (fun c hc => Ch.wfB_spec (allB_spec hw2 c hc))
  · intro k d hd g hg
    obtain ⟨i, hi, hs'⟩ := pickL_get hp k (d.rn fun k => sel.getD k 0) (by simp [hd])
    have e : sel.getD k 0 = i := by simp [hi]
    replace hg : g ∈ d.rfoot (β (sel.getD k 0)) := hg
    rw [e] at hg
    exact hr.src i _ hs' g (by rw [Ch.rfoot_rn]; exact hg)

theorem fin_ret {X : Cx} {tt : TT} (htt : TTok X.P tt) {fr : Fr} {σ : List Ch} {fn : Func} {γ : Type} {pc : γ → Prop} {fv : γ → FV} {σ1 : γ → List Ch} {rs : List ResultVar} (hrs : fn.results = rs.toArray) {l : List TV}
    (h : resL tt fr σ rs = some l) (x : γ) (sel : List Nat) (hx : pc x) (hv : packF l = (fv x).rn fun k => sel.getD k 0)
    (hp : pickL σ sel = some ((σ1 x).map (Ch.rn fun k => sel.getD k 0))) (hs : selOk 0 X.m sel = true) (hnd : nodupB sel = true)
    (hw1 : (fv x).wfB (σ1 x).length = true) (hw2 : allB (Ch.wfB (σ1 x).length) (σ1 x) = true) (hds : X.ds = [] := by rfl) :
    WpE X (bodyPost X.P fn (Leaves X.φ X.w0 X.m X.β0 X.F pc fv σ1)) .ret fr σ := ⟨leaves htt hrs h x sel hx hv hp hs hnd hw1 hw2 hds⟩
theorem fin_end {X : Cx} {tt : TT} (htt : TTok X.P tt) {fr : Fr} {σ : List Ch} {fn : Func} {γ : Type} {pc : γ → Prop} {fv : γ → FV} {σ1 : γ → List Ch} {rs : List ResultVar} (hrs : fn.results = rs.toArray) {l : List TV}
    (h : resL tt fr σ rs = some l) (x : γ) (sel : List Nat) (hx : pc x) (hv : packF l = (fv x).rn fun k => sel.getD k 0)
    (hp : pickL σ sel = some ((σ1 x).map (Ch.rn fun k => sel.getD k 0))) (hs : selOk 0 X.m sel = true) (hnd : nodupB sel = true)
    (hw1 : (fv x).wfB (σ1 x).length = true) (hw2 : allB (Ch.wfB (σ1 x).length) (σ1 x) = true) (hds : X.ds = [] := by rfl) :
    WpE X (bodyPost X.P fn (Leaves X.φ X.w0 X.m X.β0 X.F pc fv σ1)) .normal fr σ := ⟨leaves htt hrs h x sel hx hv hp hs hnd hw1 hw2 hds⟩

/-- A contract of a function that only computes. -/
abbrev Pure (P : Program) (f : FuncId) (args : List TV) (v : FV) : Prop := TriS P f args [] (γ := Unit) (fun _ => True) (fun _ => v) (fun _ => [])

end Go.Sx

namespace Go.Sx
open Go

/-- From a callee's chunk numbers to the caller's: those handed over by sel, new ones from base on. -/
def rnk (sel : List Nat) (base k : Nat) : Nat := match sel[k]? with
  | some i => i
  | none => base + (k - sel.length)

/-- Chunks put back at their places. -/
def putBack (σ : List Ch) : List Nat → List Ch → List Ch
  | i :: sel, c :: τ => putBack (σ.set i c) sel τ
  | _, _ => σ

theorem putBack_length : ∀ (sel : List Nat) (τ σ : List Ch), (putBack σ sel τ).length = σ.length
  | [], _, σ => by simp [putBack]
  | _ :: _, [], σ => by simp [putBack]
  | i :: sel, c :: τ, σ => by simp [putBack, putBack_length sel τ]

theorem putBack_other : ∀ (sel : List Nat) (τ σ : List Ch) (j : Nat), j ∉ sel → (putBack σ sel τ)[j]? = σ[j]?
  | [], _, σ, j, _ => by simp [putBack]
  | _ :: _, [], σ, j, _ => by simp [putBack]
  | i :: sel, c :: τ, σ, j, h => by
    simp only [putBack]
    rw [putBack_other sel τ _ j (fun hm => h (List.mem_cons_of_mem _ hm)), List.getElem?_set_ne (fun e => h (by simp [e]))]

theorem putBack_here : ∀ (sel : List Nat) (τ σ : List Ch) (k i : Nat) (c : Ch), sel.Nodup → sel[k]? = some i → τ[k]? = some c → i < σ.length → (putBack σ sel τ)[i]? = some c
  | [], _, _, _, _, _, _, h, _, _ => by simp at h
  | _ :: _, [], _, _, _, _, _, _, h, _ => by simp at h
  | i0 :: sel, c0 :: τ, σ, 0, i, c, hn, hs, ht, hi => by
    simp at hs ht; subst hs ht
    simp only [putBack]
    rw [putBack_other sel τ _ i0 (List.nodup_cons.1 hn).1, List.getElem?_set_self hi]
  | i0 :: sel, c0 :: τ, σ, k + 1, i, c, hn, hs, ht, hi => by
    simp only [putBack]
    exact putBack_here sel τ _ k i c (List.nodup_cons.1 hn).2 (by simpa using hs) (by simpa using ht) (by simpa using hi)

def merged (σ : List Ch) (sel : List Nat) (τ : List Ch) : List Ch :=
  putBack σ sel (τ.map (Ch.rn (rnk sel σ.length))) ++ (τ.drop sel.length).map (Ch.rn (rnk sel σ.length))

theorem rnk_sel {sel : List Nat} {base k i : Nat} (h : sel[k]? = some i) : rnk sel base k = i := by simp [rnk, h]
theorem rnk_new {sel : List Nat} {base k : Nat} (h : sel.length ≤ k) : rnk sel base k = base + (k - sel.length) := by simp [rnk, h]

theorem pickL_lt {σ : List Ch} : ∀ {sel : List Nat} {r : List Ch}, pickL σ sel = some r → ∀ i ∈ sel, i < σ.length
  | [], _, _ => by simp
  | i :: sel, r, h => by
    simp only [pickL] at h
    split at h
    · rename_i c r' hc hr
      intro j hj
      rcases List.mem_cons.1 hj with rfl | hj
      · exact (List.getElem?_eq_some_iff.1 hc).1
      · exact pickL_lt hr j hj
    · cases h

/-- What lies at these blocks. -/
def heapAt (w : World) (gs : List Nat) : Heap := gs.filterMap fun g => (w.heap[g]?).map fun o => (g, o)
theorem heapAt_mem {w : World} {gs : List Nat} {p : Nat × Obj} (h : p ∈ heapAt w gs) : p.1 ∈ gs ∧ w.heap[p.1]? = some p.2 := by
  simp only [heapAt, List.mem_filterMap, Option.map_eq_some_iff] at h
  obtain ⟨g, hg, o, ho, rfl⟩ := h
  exact ⟨hg, ho⟩
theorem heapAt_key {w : World} {gs : List Nat} {g : Nat} (hg : g ∈ gs) (hl : g < w.heap.size) : (g, w.heap[g]) ∈ heapAt w gs := by
  simp only [heapAt, List.mem_filterMap, Option.map_eq_some_iff]
  exact ⟨g, hg, _, Array.getElem?_eq_getElem hl, rfl⟩

/-- THE FRAME RULE: the chunks handed over, the rest in the frame; and back. -/
theorem Sat.frameOut {β : Nat → Bd} {σ σ0 : List Ch} {φ : Heap} {w : World} (h : Sat β σ φ w) {sel : List Nat} (hnd : sel.Nodup)
    (hp : pickL σ sel = some (σ0.map (Ch.rn (rnk sel σ.length)))) (hw0 : ∀ c ∈ σ0, c.wf σ0.length) :
    ∃ ψ, Sat (fun k => β (rnk sel σ.length k)) σ0 ψ w ∧ ∀ β' τ w', Sat β' τ ψ w' → (∀ i, i < σ0.length → β' i = β (rnk sel σ.length i)) → σ0.length ≤ τ.length → Same w w' →
      (∀ (l : Nat) (d : Ch), τ[l]? = some d → ∀ g, g ∈ d.rfoot (β' l) → Feet (fun k => β (rnk sel σ.length k)) σ0 g ∨ w.heap.size ≤ g) →
      ∃ β'', (∀ i, i < σ.length → β'' i = β i) ∧ (∀ k, k < τ.length → β'' (rnk sel σ.length k) = β' k) ∧ Sat β'' (merged σ sel τ) φ w' := by
  have hlen := pickL_len hp
  simp only [List.length_map] at hlen
  have hlt := pickL_lt hp
  have getk : ∀ k i : Nat, sel[k]? = some i → k < sel.length := fun k i h => (List.getElem?_eq_some_iff.1 h).1
  have inj : ∀ k k' i : Nat, sel[k]? = some i → sel[k']? = some i → k = k' := by
    intro k k' i h1 h2
    exact (List.getElem_inj hnd (i := k) (j := k')).1 (by rw [(List.getElem?_eq_some_iff.1 h1).2, (List.getElem?_eq_some_iff.1 h2).2])
  have get : ∀ (k : Nat) (c : Ch), σ0[k]? = some c → ∃ i : Nat, sel[k]? = some i ∧ σ[i]? = some (c.rn (rnk sel σ.length)) ∧ rnk sel σ.length k = i := by
    intro k c hc
    obtain ⟨i, hi, hs⟩ := pickL_get hp k (c.rn (rnk sel σ.length)) (by simp [hc])
    exact ⟨i, hi, hs, rnk_sel hi⟩
  -- the blocks that the others hold or read
  let gs : List Nat := ((List.range σ.length).filter fun j => decide (j ∉ sel)).flatMap fun j => ((σ[j]?).map fun c => c.rfoot (β j)).getD []
  have memgs : ∀ g, g ∈ gs ↔ ∃ (j : Nat) (c : Ch), j ∉ sel ∧ σ[j]? = some c ∧ g ∈ c.rfoot (β j) := by
    intro g
    simp only [gs, List.mem_flatMap, List.mem_filter, List.mem_range, decide_eq_true_eq]
    constructor
    · rintro ⟨j, ⟨hj, hjs⟩, hg⟩
      rw [List.getElem?_eq_getElem hj] at hg
      exact ⟨j, σ[j], hjs, List.getElem?_eq_getElem hj, by simpa using hg⟩
    · rintro ⟨j, c, hjs, hc, hg⟩
      exact ⟨j, ⟨(List.getElem?_eq_some_iff.1 hc).1, hjs⟩, by simp [hc, hg]⟩
  have hnotsel : ∀ {k i : Nat}, sel[k]? = some i → i ∈ sel := fun h => List.mem_of_getElem? h
  refine ⟨heapAt w gs ++ φ, ⟨?_, ?_, ?_, ?_, hw0⟩, ?_⟩
  · intro i j c d hc hd hij g hg hg'
    obtain ⟨i', h1, h2, h3⟩ := get i c hc
    obtain ⟨j', k1, k2, k3⟩ := get j d hd
    simp only [h3] at hg; simp only [k3] at hg'
    exact h.disj i' j' _ _ h2 k2 (fun e => hij (inj i j i' h1 (e ▸ k1))) g (by rw [Ch.foot_rn]; exact hg) (by rw [Ch.rfoot_rn]; exact hg')
  · intro i c hc g hg hm
    obtain ⟨i', h1, h2, h3⟩ := get i c hc
    simp only [h3] at hg
    rw [List.map_append, List.mem_append] at hm
    rcases hm with hm | hm
    · obtain ⟨p, hp', rfl⟩ := List.mem_map.1 hm
      obtain ⟨j, d, hjs, hd, hgd⟩ := (memgs p.1).1 (heapAt_mem hp').1
      exact h.disj i' j _ d h2 hd (fun e => hjs (e ▸ hnotsel h1)) p.1 (by rw [Ch.foot_rn]; exact hg) hgd
    · exact h.off i' _ h2 g (by rw [Ch.foot_rn]; exact hg) hm
  · intro i c hc
    obtain ⟨i', h1, h2, h3⟩ := get i c hc
    simp only [h3]
    exact (Ch.sat_rn c).1 (h.sat i' _ h2)
  · intro p hp'
    rcases List.mem_append.1 hp' with hp' | hp'
    · exact (heapAt_mem hp').2
    · exact h.frame p hp'
  · intro β' τ w' hs' hag hle hsame hsrc
    let β'' : Nat → Bd := fun j => if j < σ.length then β j else β' (sel.length + (j - σ.length))
    have b1 : ∀ j, j < σ.length → β'' j = β j := fun j hj => by simp [β'', hj]
    have b2 : ∀ k, k < τ.length → β'' (rnk sel σ.length k) = β' k := by
      intro k hk
      cases hk' : sel[k]? with
      | some i =>
        have hkl := getk k i hk'
        rw [rnk_sel hk', b1 i (hlt i (hnotsel hk')), hag k (by omega), rnk_sel hk']
      | none =>
        have hkl : sel.length ≤ k := by simpa using hk'
        rw [rnk_new hkl]
        simp only [β'']
        rw [if_neg (by omega)]
        congr 1; omega
    have rlt : ∀ k, k < τ.length → rnk sel σ.length k < σ.length + (τ.length - sel.length) := by
      intro k hk
      cases hk' : sel[k]? with
      | some i => rw [rnk_sel hk']; have := hlt i (hnotsel hk'); omega
      | none =>
        have hkl : sel.length ≤ k := by simpa using hk'
        rw [rnk_new hkl]; omega
    have hml : (merged σ sel τ).length = σ.length + (τ.length - sel.length) := by simp [merged, putBack_length]
    -- a chunk of the merged: from the callee, or another of the caller's
    have cls : ∀ (j : Nat) (d : Ch), (merged σ sel τ)[j]? = some d →
        (∃ (k : Nat) (c : Ch), τ[k]? = some c ∧ d = c.rn (rnk sel σ.length) ∧ j = rnk sel σ.length k ∧ β'' j = β' k) ∨ (j ∉ sel ∧ σ[j]? = some d ∧ β'' j = β j) := by
      intro j d hd
      unfold merged at hd
      rcases Nat.lt_or_ge j σ.length with hj | hj
      · rw [List.getElem?_append_left (by rw [putBack_length]; exact hj)] at hd
        by_cases hjs : j ∈ sel
        · obtain ⟨k, hk⟩ := List.getElem?_of_mem hjs
          have hkl := getk k j hk
          have hkt : k < τ.length := by omega
          have := putBack_here sel (τ.map (Ch.rn (rnk sel σ.length))) σ k j (τ[k].rn (rnk sel σ.length)) hnd hk (by simp [hkt]) hj
          rw [this] at hd
          cases hd
          refine .inl ⟨k, τ[k], List.getElem?_eq_getElem hkt, rfl, (rnk_sel hk).symm, ?_⟩
          have := b2 k hkt
          rw [rnk_sel hk] at this; exact this
        · rw [putBack_other sel _ σ j hjs] at hd
          exact .inr ⟨hjs, hd, b1 j hj⟩
      · rw [List.getElem?_append_right (by rw [putBack_length]; exact hj), putBack_length] at hd
        simp only [List.getElem?_map, List.getElem?_drop, Option.map_eq_some_iff] at hd
        obtain ⟨c, hc, rfl⟩ := hd
        have hkt := (List.getElem?_eq_some_iff.1 hc).1
        have hjr : j = rnk sel σ.length (sel.length + (j - σ.length)) := by rw [rnk_new (by omega)]; omega
        refine .inl ⟨_, c, hc, rfl, hjr, ?_⟩
        have := b2 _ hkt
        rw [← hjr] at this; exact this
    have keepOther : ∀ (j : Nat) (d : Ch), j ∉ sel → σ[j]? = some d → ∀ g ∈ d.rfoot (β j), (g ∈ (heapAt w gs ++ φ).map (·.1)) ∧ w'.heap[g]? = w.heap[g]? := by
      intro j d hjs hd g hg
      have hgg : g ∈ gs := (memgs g).2 ⟨j, d, hjs, hd, hg⟩
      have hgl := Ch.sat_rlt (h.sat j d hd) hg
      have hm := heapAt_key (w := w) hgg hgl
      have := hs'.frame _ (List.mem_append.2 (.inl hm))
      refine ⟨List.mem_map.2 ⟨_, List.mem_append.2 (.inl hm), rfl⟩, ?_⟩
      rw [this, Array.getElem?_eq_getElem hgl]
    refine ⟨β'', b1, b2, ?_, ?_, ?_, ?_, ?_⟩
    · intro i j c d hc hd hij g hg hg'
      rcases cls i c hc with ⟨k, c', hk, rfl, hik, hbk⟩ | ⟨his, hci, hbi⟩ <;> rcases cls j d hd with ⟨l, d', hl, rfl, hjl, hbl⟩ | ⟨hjs, hdj, hbj⟩
      · rw [hbk, Ch.foot_rn] at hg; rw [hbl, Ch.rfoot_rn] at hg'
        exact hs'.disj k l c' d' hk hl (fun e => hij (by rw [hik, hjl, e])) g hg hg'
      · rw [hbk, Ch.foot_rn] at hg; rw [hbj] at hg'
        exact hs'.off k c' hk g hg (keepOther j d hjs hdj g hg').1
      · rw [hbi] at hg; rw [hbl, Ch.rfoot_rn] at hg'
        rcases hsrc l d' hl g hg' with ⟨q, c0, hq, hgq⟩ | hge
        · obtain ⟨i', h1, h2, h3⟩ := get q c0 hq
          simp only [h3] at hgq
          exact h.disj i i' c _ hci h2 (fun e => his (e ▸ hnotsel h1)) g hg (by rw [Ch.rfoot_rn]; exact hgq)
        · have := h.chunk_lt hci hg
          omega
      · rw [hbi] at hg; rw [hbj] at hg'
        exact h.disj i j c d hci hdj hij g hg hg'
    · intro i c hc g hg hm
      rcases cls i c hc with ⟨k, c', hk, rfl, hik, hbk⟩ | ⟨his, hci, hbi⟩
      · rw [hbk, Ch.foot_rn] at hg
        exact hs'.off k c' hk g hg (by rw [List.map_append]; exact List.mem_append.2 (.inr hm))
      · rw [hbi] at hg
        exact h.off i c hci g hg hm
    · intro i c hc
      rcases cls i c hc with ⟨k, c', hk, rfl, hik, hbk⟩ | ⟨his, hci, hbi⟩
      · rw [hbk]
        refine (Ch.sat_rn c').2 (Ch.sat_ext (m := τ.length) (fun k' hk' => b2 k' hk') (hs'.wf c' (List.mem_of_getElem? hk)) (hs'.sat k c' hk))
      · rw [hbi]
        exact Ch.sat_ext b1 (h.wf c (List.mem_of_getElem? hci)) (Ch.sat_keep (h.sat i c hci) fun g hg => (keepOther i c his hci g hg).2)
    · intro p hp'
      exact hs'.frame p (List.mem_append.2 (.inr hp'))
    · intro c hc
      obtain ⟨j, hj⟩ := List.getElem?_of_mem hc
      rcases cls j c hj with ⟨k, c', hk, rfl, hik, hbk⟩ | ⟨his, hci, hbi⟩
      · exact Ch.wf_rn (fun k' hk' => by rw [hml]; exact rlt k' hk') (hs'.wf c' (List.mem_of_getElem? hk))
      · exact Ch.wf_mono (by rw [hml]; omega) (h.wf c (List.mem_of_getElem? hci))

end Go.Sx

namespace Go.Sx
open Go

def opds (fr : Fr) (g : Gd) : List Operand → Option (List TV)
  | [] => some []
  | x :: l => match opd fr g x with
    | some v => match opds fr g l with
      | some r => some (v :: r)
      | none => none
    | none => none
theorem opds_sound {β : Nat → Bd} {fr : Fr} {g : Gd} {a : Act} (hk : Knows β fr a) (hu : Under g a) :
    ∀ {l : List Operand} {r : List TV}, opds fr g l = some r → l.map a.eval = r.map (TV.den β)
  | [], r, h => by simp [opds] at h; subst h; rfl
  | x :: l, r, h => by
    simp only [opds] at h
    split at h
    · rename_i v hv
      split at h
      · rename_i r' hr
        cases h
        simp [opd_sound hk hu hv, opds_sound hk hu hr]
      · cases h
    · cases h

/-- Function f has a body in this program. -/
structure Callee (P : Program) (f : FuncId) : Prop where
  ex : ∃ fn, P.funcs[f]? = some fn ∧ fn.body.isNone = false ∧ (fn.name == "runtime.NumGoroutine") = false

theorem callFunc_run {P : Program} {f : FuncId} (h : Callee P f) (args : Array Value) (w : World) : (callFunc f args).run P w = .ok (.enter f args) w := by
  obtain ⟨fn, hf, hb, hn⟩ := h.ex
  have hn' : fn.name ≠ "runtime.NumGoroutine" := by simpa using hn
  have hb' : fn.body ≠ none := by intro e; simp [e] at hb
  simp [callFunc, hf, hb', hn']

theorem call_run {P : Program} {f : FuncId} (h : Callee P f) {a : Act} {w : World} {o : Oper} {c : Call} {fx : Operand} (ho : o.op = .call c) (hc : c.callee = .value fx) {first cap : Array Value}
    (hfx : a.eval fx = .func (.func f) first cap) : (execOp a.eval o).run P w = .ok (.enter f (first ++ c.args.map a.eval ++ cap)) w := by
  unfold execOp
  rw [ho]
  simp only [resolve, hc, hfx, Deferred.ofValue, Sem.run_bind, Sem.run_pure, Result.andThen_ok, invoke, callFunc_run h]

section
variable {X : Cx} {Q : Exit → Act → World → Prop} {fr : Fr} {σ : List Ch} {all rest : List Oper} {o : Oper}

/-- The operation's guard, if it has one, is known to hold. -/
def guardYes (all : List Oper) (fr : Fr) (o : Oper) : Prop := match o.guard with
  | none => True
  | some (j, p) => ∃ t b, guardTmp all j = some t ∧ look t fr = some (.t (.s (.bool b)), none) ∧ b = p

theorem guardYes_wanted {β : Nat → Bd} {a : Act} {w : World} (hr : Rep X β fr σ a w) (h : guardYes all fr o) : Region.wanted o (yielded all.toArray a.tmps) = true := by
  unfold guardYes at h
  unfold Region.wanted
  split at h
  · rename_i hg; rw [hg]
  · rename_i j p hg
    rw [hg]
    obtain ⟨t, b, ht, hl, rfl⟩ := h
    have hk := hr.knows t _ _ hl
    simp only [FV.den, TV.den, SV.den] at hk
    unfold guardTmp at ht
    split at ht
    · rename_i oj hj
      simp [yielded, hj, ht, hk]
    · cases ht

/-- A CALL, by contract. -/
theorem l_call {c : Call} {fx : Operand} {f : FuncId} {d : Nat} {first cap : List SV} {l cargs : List TV} {σ0 : List Ch} {γ : Type} {pc : γ → Prop} {fv : γ → FV} {σ1 : γ → List Ch}
    (hc : TriS X.P f cargs σ0 pc fv σ1) (hcal : Callee X.P f) (sel : List Nat)
    (ho : o.op = .call c) (hcc : c.callee = .value fx) (hd : o.dst = some d) (hg : guardYes all fr o) (hput : canPut X.n (gsOf all all) d fr = true) (hwhen : WhenIn (gsOf all all) fr)
    (hfx : opd fr none fx = some (.clo (.func f) first cap)) (hl : opds fr none c.args.toList = some l)
    (hA : first.map .s ++ l ++ cap.map .s = cargs.map (TV.rn (rnk sel σ.length)))
    (hp : pickL σ sel = some (σ0.map (Ch.rn (rnk sel σ.length)))) (hnd : nodupB sel = true) (hw0 : allB (Ch.wfB σ0.length) σ0 = true)
    (h : ∀ x, pc x → WpL X all Q rest ((d, (fv x).rn (rnk sel σ.length), none) :: fr) (merged σ sel (σ1 x))) : WpL X all Q (o :: rest) fr σ := by
  refine ⟨fun β a w hr => ?_⟩
  have hsp := canPut_spec hwhen hput
  have hfx' := opd_sound (g := none) hr.knows trivial hfx
  simp only [TV.den] at hfx'
  have hl' := opds_sound (g := none) hr.knows trivial hl
  refine wpList_enter (guardYes_wanted hr hg) (call_run hcal ho hcc hfx') ?_
  have hargs : ((first.map (SV.den β)).toArray ++ c.args.map a.eval ++ (cap.map (SV.den β)).toArray) = (cargs.map (TV.den fun k => β (rnk sel σ.length k))).toArray := by
    apply Array.ext'
    simp only [Array.toList_append, Array.toList_map, hl']
    have := congrArg (List.map (TV.den β)) hA
    simp only [List.map_append, List.map_map] at this
    have e1 : ∀ (q : List SV), q.map (TV.den β ∘ TV.s) = q.map (SV.den β) := fun q => List.map_congr_left fun _ _ => rfl
    have e2 : cargs.map (TV.den β ∘ TV.rn (rnk sel σ.length)) = cargs.map (TV.den fun k => β (rnk sel σ.length k)) := List.map_congr_left fun v _ => TV.den_rn v
    rw [e1, e1, e2] at this
    exact this
  rw [hargs]
  obtain ⟨ψ, hs0, back⟩ := hr.mem.frameOut (nodupB_spec hnd) hp (fun c hc => Ch.wfB_spec (allB_spec hw0 c hc))
  refine (hc.h _ ψ w hs0).mono ?_
  rintro e w' ⟨x, β', hx, hag, hle, rfl, hfw, hs1, hsame, hsrc⟩
  obtain ⟨β'', b1, b2, hs⟩ := back β' (σ1 x) w' hs1 hag hle hsame hsrc
  refine ⟨_, rfl, ?_⟩
  have hlen := pickL_len hp
  simp only [List.length_map] at hlen
  have hml : (merged σ sel (σ1 x)).length = σ.length + ((σ1 x).length - sel.length) := by simp [merged, putBack_length]
  have rlt : ∀ k, k < (σ1 x).length → rnk sel σ.length k < (merged σ sel (σ1 x)).length := by
    intro k hk
    rw [hml]
    cases hk' : sel[k]? with
    | some i => rw [rnk_sel hk']; have := pickL_lt hp i (List.mem_of_getElem? hk'); omega
    | none =>
      have hkl : sel.length ≤ k := by simpa using hk'
      rw [rnk_new hkl]; omega
  have hvden : (fv x).den β' = ((fv x).rn (rnk sel σ.length)).den β'' := by
    rw [FV.den_rn]
    exact (FV.den_ext (m := (σ1 x).length) (fun k hk => b2 k hk) hfw).symm
  rw [hvden, hd]
  refine (h x hx).h β'' _ w' ⟨hr.defers, by simpa [Act.put] using hr.size, ?_, ?_, hs, hr.same.trans hsame, ?_, ?_, ?_⟩
  · exact knows_put (Knows.ext hr.frwf b1 hr.knows) (by rw [hr.size]; exact hsp.1) hsp.2 rfl
  · intro q hq
    rcases List.mem_cons.1 hq with rfl | hq
    · exact FV.wf_rn rlt hfw
    · exact FV.wf_mono (by rw [hml]; omega) (hr.frwf q hq)
  · intro i hi
    rw [b1 i (Nat.lt_of_lt_of_le hi hr.fits)]; exact hr.agree i hi
  · have := hr.fits; omega
  · intro j dd hj g hgm
    unfold merged at hj
    have hpb := putBack_length sel ((σ1 x).map (Ch.rn (rnk sel σ.length))) σ
    have fromσ1 : ∀ (k : Nat) (c : Ch), (σ1 x)[k]? = some c → dd = c.rn (rnk sel σ.length) → β'' j = β' k → X.F g ∨ X.w0.heap.size ≤ g := by
      intro k c hk hdc hbj
      subst hdc
      rw [hbj, Ch.rfoot_rn] at hgm
      rcases hsrc k c hk g hgm with ⟨q, c0, hq, hgq⟩ | hge
      · obtain ⟨i', h1, h2⟩ := pickL_get hp q (c0.rn (rnk sel σ.length)) (by simp [hq])
        replace hgq : g ∈ c0.rfoot (β (rnk sel σ.length q)) := hgq
        rw [rnk_sel h1] at hgq
        exact hr.src i' _ h2 g (by rw [Ch.rfoot_rn]; exact hgq)
      · exact .inr (Nat.le_trans hr.same.size hge)
    rcases Nat.lt_or_ge j σ.length with hjl | hjl
    · rw [List.getElem?_append_left (by rw [hpb]; exact hjl)] at hj
      by_cases hjs : j ∈ sel
      · obtain ⟨k, hk⟩ := List.getElem?_of_mem hjs
        have hkl := (List.getElem?_eq_some_iff.1 hk).1
        have hkt : k < (σ1 x).length := by omega
        rw [putBack_here sel _ σ k j ((σ1 x)[k].rn (rnk sel σ.length)) (nodupB_spec hnd) hk (by simp [hkt]) hjl] at hj
        have := b2 k hkt
        rw [rnk_sel hk] at this
        exact fromσ1 k _ (List.getElem?_eq_getElem hkt) (Option.some.inj hj).symm this
      · rw [putBack_other sel _ σ j hjs] at hj
        rw [b1 j hjl] at hgm
        exact hr.src j dd hj g hgm
    · rw [List.getElem?_append_right (by rw [hpb]; exact hjl), hpb] at hj
      simp only [List.getElem?_map, List.getElem?_drop, Option.map_eq_some_iff] at hj
      obtain ⟨c, hc', rfl⟩ := hj
      have hkt := (List.getElem?_eq_some_iff.1 hc').1
      have := b2 _ hkt
      rw [rnk_new (by omega), show σ.length + (sel.length + (j - σ.length) - sel.length) = j by omega] at this
      exact fromσ1 _ c hc' rfl this

/-- All entries' guards are guards of the region. -/
def whenB (gs : List Nat) : Fr → Bool
  | [] => true
  | (_, _, none) :: r => whenB gs r
  | (_, _, some (t, _)) :: r => match elemN t gs with
    | true => whenB gs r
    | false => false
theorem whenB_spec {gs : List Nat} : ∀ {fr : Fr}, whenB gs fr = true → WhenIn gs fr
  | [], _ => fun _ _ _ _ h => by simp at h
  | (_, _, none) :: r, h => fun k v t p hm => by
    rcases List.mem_cons.1 hm with hm | hm
    · simp at hm
    · exact whenB_spec (gs := gs) (by simpa [whenB] using h) k v t p hm
  | (_, _, some (t', p')) :: r, h => fun k v t p hm => by
    simp only [whenB] at h
    split at h
    · rename_i he
      rcases List.mem_cons.1 hm with hm | hm
      · simp at hm; obtain ⟨_, _, rfl, _⟩ := hm; exact elemN_true he
      · exact whenB_spec h k v t p hm
    · cases h

/-- GOING ON within a region. -/
theorem l_go {tt : TT} (htt : TTok X.P tt) (ks stops : List Nat) {l : List Oper} (hp : whenB (gsOf all all) fr = true)
    (h : ex tt X.n (gsOf all all) stops all (fun l fr σ => match l with
      | [] => keepK ks fr fun fr' => WpE X Q .normal fr' σ
      | o :: l => WpL X all Q (o :: l) fr σ) l fr σ) : WpL X all Q l fr σ := by
  refine ex_sound htt l fr σ (whenB_spec hp) (c_region.ex_mono ?_ l fr σ h)
  intro l fr σ hl
  split at hl
  · rw [keepK_eq] at hl
    exact ⟨fun β a w hr => wpList_nil (hl.h β a w (hr.keep ks))⟩
  · exact hl

/-- The call's rule for a function that only computes; conditions by reckoning. -/
theorem l_pure {c : Call} {fx : Operand} {f : FuncId} {d : Nat} {l cargs : List TV} {v : FV}
    (hc : Pure X.P f cargs v) (hcal : Callee X.P f)
    (ho : o.op = .call c) (hcc : c.callee = .value fx) (hd : o.dst = some d) (hg : guardYes all fr o) (hput : canPut X.n (gsOf all all) d fr = true) (hwhen : whenB (gsOf all all) fr = true)
    (hfx : opd fr none fx = some (.clo (.func f) [] [])) (hl : opds fr none c.args.toList = some l)
    (hA : l = cargs) (hno : allB (TV.wfB 0) cargs = true) (hnv : v.wfB 0 = true)
    (h : WpL X all Q rest ((d, v, none) :: fr) σ) : WpL X all Q (o :: rest) fr σ := by
  have rnS : ∀ (ρ : Nat → Nat) (q : SV), q.wfB 0 = true → q.rn ρ = q := by
    intro ρ q hq; cases q <;> first | rfl | (simp [SV.wfB, Nat.blt] at hq)
  have rnT : ∀ (ρ : Nat → Nat) (q : TV), q.wfB 0 = true → q.rn ρ = q := by
    intro ρ q hq
    cases q with
    | s q => simp only [TV.rn, rnS ρ q hq]
    | agg l =>
      simp only [TV.rn]
      congr 1
      exact (List.map_congr_left fun x hx => rnS ρ x (allB_spec hq x hx)).trans (List.map_id' l)
    | bnd f l =>
      simp only [TV.rn]
      congr 1
      exact (List.map_congr_left fun x hx => rnS ρ x (allB_spec hq x hx)).trans (List.map_id' l)
    | clo f a b =>
      simp only [TV.wfB] at hq
      split at hq
      · rename_i ha
        simp only [TV.rn]
        congr 1
        · exact (List.map_congr_left fun x hx => rnS ρ x (allB_spec ha x hx)).trans (List.map_id' a)
        · exact (List.map_congr_left fun x hx => rnS ρ x (allB_spec hq x hx)).trans (List.map_id' b)
      · cases hq
  have rnF : ∀ (ρ : Nat → Nat), v.rn ρ = v := by
    intro ρ
    cases v with
    | t q => simp only [FV.rn, rnT ρ q hnv]
    | tup l =>
      simp only [FV.rn]
      congr 1
      exact (List.map_congr_left fun x hx => rnT ρ x (allB_spec hnv x hx)).trans (List.map_id' l)
  refine l_call hc hcal [] ho hcc hd hg hput (whenB_spec hwhen) hfx hl ?_ rfl rfl rfl ?_
  · rw [hA]
    simp only [List.map_nil, List.nil_append, List.append_nil]
    exact ((List.map_congr_left fun x hx => rnT _ x (allB_spec hno x hx)).trans (List.map_id' cargs)).symm
  · intro _ _
    rw [rnF]
    simpa [merged, putBack] using h

/-- A guarded operation whose guard is a Bool that is not decided: both ways. -/
theorem l_split {j t d : Nat} {p b : Bool} (hg : o.guard = some (j, p)) (ht : guardTmp all j = some t) (hb : look t fr = some (.t (.s (.bool b)), none)) (hd : o.dst = some d)
    (hput : canPut X.n (gsOf all all) d fr = true) (hwhen : whenB (gsOf all all) fr = true)
    (hy : b = p → WpL X all Q (o :: rest) fr σ) (hn : b = !p → WpL X all Q rest ((d, .tup [], none) :: fr) σ) : WpL X all Q (o :: rest) fr σ := by
  by_cases hbp : b = p
  · exact hy hbp
  · refine ⟨fun β a w hr => ?_⟩
    have hsp := canPut_spec (whenB_spec hwhen) hput
    have hk := hr.knows t _ _ hb
    simp only [FV.den, TV.den, SV.den] at hk
    have hnw : Region.wanted o (yielded all.toArray a.tmps) = false := by
      unfold guardTmp at ht
      split at ht
      · rename_i oj hj
        simp [Region.wanted, hg, yielded, hj, ht, hk, hbp]
      · cases ht
    refine wpList_skip hnw ?_
    rw [hd]
    refine (hn (by cases b <;> cases p <;> simp_all)).h β _ _ ⟨hr.defers, by simpa [Act.put] using hr.size, ?_, ?_, hr.mem, hr.same, hr.agree, hr.fits, hr.src⟩
    · exact knows_put hr.knows (by rw [hr.size]; exact hsp.1) hsp.2 rfl
    · intro x hx
      rcases List.mem_cons.1 hx with rfl | hx
      · intro y hy; simp at hy
      · exact hr.frwf x hx

end
end Go.Sx
