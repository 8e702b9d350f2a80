/- Loops; going over to other chunk numbers and frames; freezing. -/
import Derived.Test.YtcjaggapamngmaaSxB
import Derived.ChangeKeysEq
import Derived.Laws.StructEq
import Derived.WalkKit
import Derived.ProofKit
import Derived.OpenShut
import Derived.ShutString
import Derived.ChangeOld
import Derived.Below
import Derived.Deep.Slices
import Derived.SizedLaws

namespace Go.Sx
open Go

/-- From this frame and chunks to those. -/
def InTo (X : Cx) (fr : Fr) (σ : List Ch) (fr' : Fr) (σ' : List Ch) : Prop := ∀ β a w, Rep X β fr σ a w → ∃ β', Rep X β' fr' σ' a w

/-- Every entry of the second frame is found in the first. -/
def frIn (fr : Fr) (ρ : Nat → Nat) : Fr → Prop
  | [] => True
  | (d, v, none) :: r => (∃ v', look d fr = some (v', none) ∧ v' = v.rn ρ) ∧ frIn fr ρ r
  | (_, _, some _) :: _ => False

theorem frIn_get {fr : Fr} {ρ : Nat → Nat} : ∀ {fr' : Fr}, frIn fr ρ fr' → ∀ {d : Nat} {v : FV} {g : Gd}, (d, v, g) ∈ fr' → g = none ∧ look d fr = some (v.rn ρ, none)
  | [], _, _, _, _, h => by simp at h
  | (d', u, none) :: r, ⟨⟨v', h1, h2⟩, h3⟩, d, v, g, h => by
    rcases List.mem_cons.1 h with h | h
    · cases h; subst h2; exact ⟨rfl, h1⟩
    · exact frIn_get h3 h
  | (_, _, some _) :: _, h, _, _, _, _ => h.elim

def frWf (m : Nat) : Fr → Bool
  | [] => true
  | (_, v, _) :: r => match v.wfB m with
    | true => frWf m r
    | false => false
theorem frWf_spec {m : Nat} : ∀ {fr : Fr}, frWf m fr = true → ∀ e ∈ fr, e.2.1.wf m
  | [], _ => by simp
  | (d, v, g) :: r, h => by
    unfold frWf at h
    split at h
    · rename_i hv
      intro e he
      rcases List.mem_cons.1 he with rfl | he
      · exact FV.wfB_spec hv
      · exact frWf_spec h e he
    · cases h

section
variable {X : Cx} {tt : TT} {ct : CT} {Q : Exit → Act → World → Prop} {fr : Fr} {σ : List Ch}

theorem into (sel : List Nat) {fr' : Fr} {σ' : List Ch} (hF : frIn fr (fun k => sel.getD k 0) fr') (hS : ∃ r, pickL σ sel = some r ∧ r = σ'.map (Ch.rn fun k => sel.getD k 0))
    (hs : selOk 0 X.m sel = true) (hnd : nodupB sel = true) (hw1 : frWf σ'.length fr' = true) (hw2 : allB (Ch.wfB σ'.length) σ' = true) : InTo X fr σ fr' σ' := by
  intro β a w hr
  obtain ⟨r, hp, rfl⟩ := hS
  refine ⟨fun k => β (sel.getD k 0), hr.defers, hr.size, ?_, frWf_spec hw1, hr.mem.select (nodupB_spec hnd) hp (fun c hc => Ch.wfB_spec (allB_spec hw2 c hc)), hr.same, ?_, ?_, ?_⟩
  · intro d v g hl
    obtain ⟨rfl, h1⟩ := frIn_get hF (look_mem' hl)
    have := hr.knows d _ _ h1
    simp only at this ⊢
    rw [FV.den_rn] at this
    exact this
  · intro i hi
    have := selOk_spec hs i hi
    simp only [Nat.zero_add] at this
    have e : sel.getD i 0 = i := by simp [this]
    show β (sel.getD i 0) = X.β0 i
    rw [e]; exact hr.agree i hi
  · have := pickL_len hp
    simp at this
    rw [this]
    rcases Nat.lt_or_ge sel.length X.m with hlt | hge
    · have := selOk_spec hs sel.length hlt
      simp at this
    · exact hge
  · intro k d hd g hg
    obtain ⟨i, hi, hs'⟩ := pickL_get hp k (d.rn fun k => sel.getD k 0) (by simp [hd])
    have e : sel.getD k 0 = i := by simp [hi]
    replace hg : g ∈ d.rfoot (β (sel.getD k 0)) := hg
    rw [e] at hg
    exact hr.src i _ hs' g (by rw [Ch.rfoot_rn]; exact hg)

/-- What a round hands on. -/
def Again (X : Cx) {α : Type} (I : α → Prop) (μ : α → Nat) (F : α → Fr) (S : α → List Ch) (n : Nat) (a : Act) (w : World) : Prop :=
  ∃ x' β, I x' ∧ μ x' < n ∧ Rep X β (F x') (S x') a w

/-- A LOOP with a ghost. -/
theorem c_loop {α : Type} (I : α → Prop) (μ : α → Nat) (F : α → Fr) (S : α → List Ch) {body : Code} {s : List Fm} (x0 : α) (h0 : I x0) (hin : InTo X fr σ (F x0) (S x0))
    (round : ∀ x, I x → WpC X body (stkQ X.fe X.P Q (.lp (Again X I μ F S (μ x)) :: s)) (F x) (S x)) : WpC X (.loop body) (stkQ X.fe X.P Q s) fr σ := by
  refine ⟨fun β a w hr => ?_⟩
  obtain ⟨β', hr'⟩ := hin β a w hr
  refine cd_ghost (fun n a w => ∃ x β, I x ∧ μ x = n ∧ Rep X β (F x) (S x) a w) (μ x0) ⟨x0, β', h0, rfl, hr'⟩ ?_
  rintro n a w ⟨x, β, hx, rfl, hr⟩
  refine cd_mono ?_ ((round x hx).h β a w hr)
  intro e a' w' hq
  cases e with
  | normal =>
    obtain ⟨x', β', h1, h2, h3⟩ := hq
    exact ⟨_, h2, x', β', h1, rfl, h3⟩
  | _ => exact hq

theorem e_again {α : Type} {I : α → Prop} {μ : α → Nat} {F : α → Fr} {S : α → List Ch} {n : Nat} {Q' : Exit → Act → World → Prop} (x' : α) (h : I x') (hμ : μ x' < n) (hin : InTo X fr σ (F x') (S x')) :
    WpE X (Exit.then (Again X I μ F S n) Q') .normal fr σ := by
  refine ⟨fun β a w hr => ?_⟩
  obtain ⟨β', hr'⟩ := hin β a w hr
  exact ⟨x', β', h, hμ, hr'⟩

/-- A LOOP, at most n rounds, one after the other. -/
theorem c_unroll (n : Nat) {body : Code} {s : List Fm} (h : WpC X body (stkQ X.fe X.P Q (.rnd body n :: s)) fr σ) : WpC X (.loop body) (stkQ X.fe X.P Q s) fr σ :=
  ⟨fun β a w hr => cd_rounds (n + 1) (h.h β a w hr)⟩

theorem WpC.into {c : Code} {Q : Exit → Act → World → Prop} {fr' : Fr} {σ' : List Ch} (hin : InTo X fr σ fr' σ') (h : WpC X c Q fr' σ') : WpC X c Q fr σ :=
  ⟨fun β a w hr => by obtain ⟨β', hr'⟩ := hin β a w hr; exact h.h β' a w hr'⟩
theorem WpL.into {all l : List Oper} {Q : Exit → Act → World → Prop} {fr' : Fr} {σ' : List Ch} (hin : InTo X fr σ fr' σ') (h : WpL X all Q l fr' σ') : WpL X all Q l fr σ :=
  ⟨fun β a w hr => by obtain ⟨β', hr'⟩ := hin β a w hr; exact h.h β' a w hr'⟩
theorem WpE.into {e : Exit} {Q : Exit → Act → World → Prop} {fr' : Fr} {σ' : List Ch} (hin : InTo X fr σ fr' σ') (h : WpE X Q e fr' σ') : WpE X Q e fr σ :=
  ⟨fun β a w hr => by obtain ⟨β', hr'⟩ := hin β a w hr; exact h.h β' a w hr'⟩

/-- Nothing is written any more: a row becomes a view of its cells. -/
theorem freeze (i : Nat) {c : Ch} {xs : List Value} (hc : σ[i]? = some c) (hxs : c.cells? = some xs) : InTo X fr σ fr (σ.set i (.view xs)) := by
  intro β a w hr
  have hsub : ∀ g, g ∈ (Ch.view xs).rfoot (β i) → g ∈ c.rfoot (β i) := by
    intro g hg
    cases xs with
    | nil => simp [Ch.rfoot, Ch.foot] at hg
    | cons x xs =>
      simp [Ch.rfoot] at hg; subst hg
      have hn := (Ch.cells_at (hr.mem.sat i c hc) hxs 0 x rfl).1
      cases c <;> simp [Ch.cells?] at hxs <;> subst hxs <;> simp [Ch.rfoot, Ch.foot, hn]
  refine ⟨β, hr.defers, hr.size, hr.knows, by simpa using hr.frwf, ?_, hr.same, hr.agree, by simpa using hr.fits, ?_⟩
  · refine hr.mem.weak hc (fun g hg => by simp [Ch.foot] at hg) hsub trivial ?_
    exact fun j v hv => Ch.cells_at (hr.mem.sat i c hc) hxs j v hv
  · intro l d hd g hg
    by_cases hil : i = l
    · subst hil
      have hlt := (List.getElem?_eq_some_iff.1 hc).1
      rw [List.getElem?_set_self hlt] at hd; cases hd
      exact hr.src i c hc g (hsub g hg)
    · rw [List.getElem?_set_ne hil] at hd; exact hr.src l d hd g hg

theorem l_freeze (i : Nat) {all l : List Oper} {Q : Exit → Act → World → Prop} {c : Ch} {xs : List Value} (hc : σ[i]? = some c) (hxs : c.cells? = some xs) (h : forceL (σ.set i (.view xs)) fun σ' => WpL X all Q l fr σ') : WpL X all Q l fr σ := by
  rw [forceL_eq] at h
  exact h.into (freeze i hc hxs)
theorem c_freeze (i : Nat) {c : Code} {Q : Exit → Act → World → Prop} {d : Ch} {xs : List Value} (hc : σ[i]? = some d) (hxs : d.cells? = some xs) (h : forceL (σ.set i (.view xs)) fun σ' => WpC X c Q fr σ') : WpC X c Q fr σ := by
  rw [forceL_eq] at h
  exact h.into (freeze i hc hxs)
theorem e_freeze (i : Nat) {e : Exit} {Q : Exit → Act → World → Prop} {d : Ch} {xs : List Value} (hc : σ[i]? = some d) (hxs : d.cells? = some xs) (h : forceL (σ.set i (.view xs)) fun σ' => WpE X Q e fr σ') : WpE X Q e fr σ := by
  rw [forceL_eq] at h
  exact h.into (freeze i hc hxs)

/-- A nil slice that one may append to. -/
theorem nilRow (e sz : Nat) : InTo X fr σ fr (σ ++ [.own e sz 0 []]) := by
  intro β a w hr
  obtain ⟨β', h1, h2, h3⟩ := push_nil hr.mem e sz
  refine ⟨β', hr.defers, hr.size, Knows.ext hr.frwf h1 hr.knows, fun x hx => FV.wf_mono (by simp) (hr.frwf x hx), h3, hr.same, fun i hi => (h1 i (Nat.lt_of_lt_of_le hi hr.fits)).trans (hr.agree i hi), by have := hr.fits; simp; omega, ?_⟩
  intro l d hd g hg
  rcases append_get hd with ⟨hl', hd'⟩ | ⟨rfl, rfl⟩
  · rw [h1 l hl'] at hg; exact hr.src l d hd' g hg
  · simp [Ch.rfoot, Ch.foot, h2] at hg

/-- A slot that holds nil is a row of nothing, to be appended to. -/
theorem nilSlot (d e sz : Nat) (hl : look d fr = some (.t (.s (.raw (.slice none 0 0))), none)) : InTo X fr σ ((d, .t (.s (.sl σ.length 0 0 0)), none) :: fr) (σ ++ [.own e sz 0 []]) := by
  intro β a w hr
  obtain ⟨β', h1, h2, h3⟩ := push_nil hr.mem e sz
  refine ⟨β', hr.defers, hr.size, ?_, ?_, h3, hr.same, fun i hi => (h1 i (Nat.lt_of_lt_of_le hi hr.fits)).trans (hr.agree i hi), by have := hr.fits; simp; omega, ?_⟩
  · intro d' v g hl'
    simp only [look] at hl'
    split at hl'
    · rename_i hb
      have := Nat.eq_of_beq_eq_true hb
      subst this
      cases hl'
      have := hr.knows _ _ _ hl
      simp only [FV.den, TV.den, SV.den] at this ⊢
      rw [this, h2]; rfl
    · exact Knows.ext hr.frwf h1 hr.knows d' v g hl'
  · intro x hx
    rcases List.mem_cons.1 hx with rfl | hx
    · simp [FV.wf, TV.wf, SV.wf]
    · exact FV.wf_mono (by simp) (hr.frwf x hx)
  · intro l c hd g hg
    rcases append_get hd with ⟨hl', hd'⟩ | ⟨rfl, rfl⟩
    · rw [h1 l hl'] at hg; exact hr.src l c hd' g hg
    · simp [Ch.rfoot, Ch.foot, h2] at hg

/-- A CALL, by contract; the arguments and the chunks that are handed over up to equations. -/
theorem l_call' {all rest : List Oper} {o : Oper} {Q : Exit → Act → World → Prop} {c : Call} {fx : Operand} {f : FuncId} {d : Nat} {first cap : List SV} {l cargs : List TV} {σ0 : List Ch} {γ : Type} {pc : γ → Prop} {fv : γ → FV} {σ1 : γ → List Ch}
    (hc : TriS X.P f cargs σ0 pc fv σ1) (hcal : Sx.Callee X.P f) (sel : List Nat)
    (ho : o.op = .call c) (hcc : c.callee = .value fx) (hd : o.dst = some d) (hg : guardYes all fr o) (hput : canPut X.n (gsOf all all) d fr = true) (hwhen : whenB (gsOf all all) fr = true)
    (hfx : opd fr none fx = some (.clo (.func f) first cap)) (hl : opds fr none c.args.toList = some l)
    (hA : first.map .s ++ l ++ cap.map .s = cargs.map (TV.rn (rnk sel σ.length)))
    (hp : ∃ r, pickL σ sel = some r ∧ r = σ0.map (Ch.rn (rnk sel σ.length))) (hnd : nodupB sel = true) (hw0 : allB (Ch.wfB σ0.length) σ0 = true)
    (h : ∀ x, pc x → WpL X all Q rest ((d, (fv x).rn (rnk sel σ.length), none) :: fr) (merged σ sel (σ1 x))) : WpL X all Q (o :: rest) fr σ := by
  obtain ⟨r, h1, rfl⟩ := hp
  exact l_call hc hcal sel ho hcc hd hg hput (whenB_spec hwhen) hfx hl hA h1 hnd hw0 h

end
end Go.Sx

namespace Go.Sx
open Go

def sizeB (P : Program) (t : TypeId) (n : Nat) : Bool := match P.info? t with
  | some i => Nat.beq i.size n
  | none => false

/-- The cells of a type that == compares, flat. -/
def eqTy (P : Program) : Nat → TypeId → Option (List (Option IntKind))
  | 0, _ => none
  | d + 1, t => match P.underlying t with
    | some (.int k) => some [some k]
    | some .bool => some [none]
    | some (.struct fs) => match P.stoodInHeld t with
      | true => none
      | false => eqFs P (eqTy P d) 0 fs.toList
    | some (.array n e) => match eqTy P d e with
      | some ks => match sizeB P e ks.length with
        | true => some (List.replicate n ks).flatten
        | false => none
      | none => none
    | _ => none
  where
  eqFs (P : Program) (f : TypeId → Option (List (Option IntKind))) : Nat → List Field → Option (List (Option IntKind))
    | _, [] => some []
    | off, x :: r => match f x.type with
      | some ks => match sizeB P x.type ks.length, Nat.beq x.offset off, x.name == "_" with
        | true, true, false => match eqFs P f (off + ks.length) r with
          | some l => some (ks ++ l)
          | none => none
        | _, _, _ => none
      | none => none

def mkV (P : Program) (t : TypeId) (l : List Value) : Value := match P.underlying t with
  | some (.struct _) => .agg l.toArray
  | some (.array _ _) => .agg l.toArray
  | _ => l.headD (.bool false)

def eqL' : List (Option IntKind) → List Value → List Value → Option Bool
  | [], [], [] => some true
  | some k :: ks, .int k1 a :: xs, .int k2 b :: ys => match decide (k = k1), decide (k = k2), eqL' ks xs ys with
    | true, true, some r => some ((a == b) && r)
    | _, _, _ => none
  | none :: ks, .bool a :: xs, .bool b :: ys => match eqL' ks xs ys with
    | some r => some ((a == b) && r)
    | none => none
  | _, _, _ => none

theorem eqL_cases {k : Option IntKind} {ks : List (Option IntKind)} {xs ys : List Value} {b : Bool} (h : eqL' (k :: ks) xs ys = some b) :
    (∃ kk a a' xs' ys' r, k = some kk ∧ xs = .int kk a :: xs' ∧ ys = .int kk a' :: ys' ∧ eqL' ks xs' ys' = some r ∧ b = ((a == a') && r)) ∨
    (∃ a a' xs' ys' r, k = none ∧ xs = .bool a :: xs' ∧ ys = .bool a' :: ys' ∧ eqL' ks xs' ys' = some r ∧ b = ((a == a') && r)) := by
  unfold eqL' at h
  split at h
  · rename_i e; cases e
  · rename_i e
    cases e
    split at h
    · rename_i h1 h2 hr
      cases h
      have h1 := of_decide_eq_true h1
      have h2 := of_decide_eq_true h2
      subst h1; subst h2
      exact .inl ⟨_, _, _, _, _, _, rfl, rfl, rfl, hr, rfl⟩
    · cases h
  · rename_i e
    cases e
    split at h
    · rename_i hr
      cases h
      exact .inr ⟨_, _, _, _, _, rfl, rfl, rfl, hr, rfl⟩
    · cases h
  · cases h
theorem eqL_int (k : IntKind) (ks : List (Option IntKind)) (a b : Int) (xs ys : List Value) {r : Bool} (h : eqL' ks xs ys = some r) : eqL' (some k :: ks) (.int k a :: xs) (.int k b :: ys) = some ((a == b) && r) := by
  simp [eqL', h]
theorem eqL_bool (ks : List (Option IntKind)) (a b : Bool) (xs ys : List Value) {r : Bool} (h : eqL' ks xs ys = some r) : eqL' (none :: ks) (.bool a :: xs) (.bool b :: ys) = some ((a == b) && r) := by
  simp [eqL', h]
theorem eqL_nil {xs ys : List Value} {b : Bool} (h : eqL' [] xs ys = some b) : xs = [] ∧ ys = [] ∧ b = true := by
  cases xs <;> cases ys <;> simp [eqL'] at h ⊢
  exact h

theorem eqL_len : ∀ {ks : List (Option IntKind)} {xs ys : List Value} {b : Bool}, eqL' ks xs ys = some b → xs.length = ks.length ∧ ys.length = ks.length
  | [], xs, ys, b, h => by obtain ⟨rfl, rfl, _⟩ := eqL_nil h; exact ⟨rfl, rfl⟩
  | k :: ks, xs, ys, b, h => by
    rcases eqL_cases h with ⟨_, _, _, _, _, _, rfl, rfl, rfl, hr, _⟩ | ⟨_, _, _, _, _, rfl, rfl, rfl, hr, _⟩
    · have := eqL_len hr; simp [this]
    · have := eqL_len hr; simp [this]

theorem eqL_append : ∀ {k1 k2 : List (Option IntKind)} {xs ys : List Value} {b : Bool}, eqL' (k1 ++ k2) xs ys = some b →
    ∃ b1 b2, eqL' k1 (xs.take k1.length) (ys.take k1.length) = some b1 ∧ eqL' k2 (xs.drop k1.length) (ys.drop k1.length) = some b2 ∧ b = (b1 && b2)
  | [], k2, xs, ys, b, h => ⟨true, b, by simp [eqL'], by simpa using h, by simp⟩
  | k :: k1, k2, xs, ys, b, h => by
    rw [List.cons_append] at h
    rcases eqL_cases h with ⟨_, a, a', _, _, _, rfl, rfl, rfl, hr, rfl⟩ | ⟨a, a', _, _, _, rfl, rfl, rfl, hr, rfl⟩
    · obtain ⟨b1, b2, h1, h2, rfl⟩ := eqL_append hr
      exact ⟨(a == a') && b1, b2, by simpa using eqL_int _ _ a a' _ _ h1, by simpa using h2, by simp [Bool.and_assoc]⟩
    · obtain ⟨b1, b2, h1, h2, rfl⟩ := eqL_append hr
      exact ⟨(a == a') && b1, b2, by simpa using eqL_bool _ a a' _ _ h1, by simpa using h2, by simp [Bool.and_assoc]⟩

/-- Two values of the type, compared. -/
def EqV (P : Program) (d : Nat) (t : TypeId) (ks : List (Option IntKind)) : Prop :=
  ∀ (w : World) (xs ys : List Value) (b : Bool), eqL' ks xs ys = some b → (Op.equalIn d t (mkV P t xs) (mkV P t ys)).run P w = .ok b w

theorem part_mk {P : Program} {t : TypeId} {n : Nat} (hs : sizeB P t n = true) {d : TypeDesc} (hu : P.underlying t = some d) (hsc : isRowD d = false → n = 1) (w : World) (l : List Value) (off : Nat) (hl : off + n ≤ l.length) :
    (part t l.toArray off).run P w = .ok (mkV P t ((l.drop off).take n)) w := by
  unfold sizeB at hs
  split at hs
  · rename_i i hi
    have hn := Nat.eq_of_beq_eq_true hs
    subst hn
    simp only [part, Sem.run_bind, isAgg_of hu, Result.andThen_ok]
    cases hd : isRowD d with
    | true =>
      have : mkV P t ((l.drop off).take i.size) = .agg ((l.drop off).take i.size).toArray := by
        unfold mkV; rw [hu]; cases d <;> simp [isRowD] at hd <;> rfl
      rw [this]
      simp [sizeOf_of hi]
    | false =>
      have h1 := hsc hd
      have hlt : off < l.length := by omega
      have : mkV P t ((l.drop off).take i.size) = l[off] := by
        unfold mkV; rw [hu]
        have e : (l.drop off).take i.size = [l[off]] := by
          rw [h1, List.drop_eq_getElem_cons hlt]; rfl
        rw [e]
        cases d <;> simp [isRowD] at hd <;> rfl
      rw [this]
      simp [hlt]
  · cases hs

theorem eqTy_scalar {P : Program} {d : Nat} {t : TypeId} {ks : List (Option IntKind)} (h : eqTy P d t = some ks) : ∃ td, P.underlying t = some td ∧ (isRowD td = false → ks.length = 1) := by
  cases d with
  | zero => simp [eqTy] at h
  | succ d =>
    unfold eqTy at h
    split at h <;> try cases h
    · rename_i k hu; exact ⟨_, hu, fun _ => rfl⟩
    · rename_i hu; exact ⟨_, hu, fun _ => rfl⟩
    · rename_i fs hu; exact ⟨_, hu, fun h => by simp [isRowD] at h⟩
    · rename_i n e hu; exact ⟨_, hu, fun h => by simp [isRowD] at h⟩

theorem eqV_of {P : Program} : ∀ (d D : Nat) (t : TypeId) (ks : List (Option IntKind)), eqTy P d t = some ks → d ≤ D → EqV P D t ks
  | 0, _, _, _, h, _ => by simp [eqTy] at h
  | d + 1, 0, _, _, _, hD => by omega
  | d + 1, D + 1, t, ks, h, hD => by
    have ih := fun t ks (h : eqTy P d t = some ks) => eqV_of d D t ks h (by omega)
    intro w xs ys b hb
    unfold eqTy at h
    split at h
    · rename_i k hu
      cases h
      obtain ⟨h1, h2⟩ := eqL_len hb
      match xs, ys, h1, h2 with
      | [x], [y], _, _ =>
        rcases eqL_cases hb with ⟨_, a, a', _, _, _, e0, e1, e2, hr, rfl⟩ | ⟨_, _, _, _, _, e0, _⟩
        · cases e0; cases e1; cases e2
          obtain ⟨_, _, rfl⟩ := eqL_nil hr
          simp only [mkV, hu, List.headD_cons, Bool.and_true]
          exact run_equalIn_int w D t _ _ _ _ hu
        · cases e0
    · rename_i hu
      cases h
      obtain ⟨h1, h2⟩ := eqL_len hb
      match xs, ys, h1, h2 with
      | [x], [y], _, _ =>
        rcases eqL_cases hb with ⟨_, _, _, _, _, _, e0, _⟩ | ⟨a, a', _, _, _, e0, e1, e2, hr, rfl⟩
        · cases e0
        · cases e1; cases e2
          obtain ⟨_, _, rfl⟩ := eqL_nil hr
          simp only [mkV, hu, List.headD_cons, Bool.and_true]
          exact run_equalIn_bool w D t _ _ hu
    · rename_i fs hu
      split at h
      · cases h
      · rename_i hsi
        have hfo : P.fieldsOf t = fs := by unfold Program.fieldsOf; rw [hu]
        simp only [mkV, hu]
        rw [run_equalIn_struct w D t _ _ (by rw [hfo]; exact hu) hsi, hfo]
        have key : ∀ (fl : List Field) (off : Nat) (kl : List (Option IntKind)) (b : Bool), eqTy.eqFs P (eqTy P d) off fl = some kl → eqL' kl (xs.drop off) (ys.drop off) = some b →
            (Op.eqFields D xs.toArray ys.toArray fl).run P w = .ok b w := by
          intro fl
          induction fl with
          | nil =>
            intro off kl b h1 h2
            simp [eqTy.eqFs] at h1; subst h1
            obtain ⟨_, _, rfl⟩ := eqL_nil h2
            simp [Op.eqFields]
          | cons f r ihf =>
            intro off kl b h1 h2
            simp only [eqTy.eqFs] at h1
            split at h1
            · rename_i ks1 hk1
              split at h1
              · rename_i hsz hof hnm
                split at h1
                · rename_i l hl
                  cases h1
                  have hof' := Nat.eq_of_beq_eq_true hof
                  obtain ⟨b1, b2, e1, e2, rfl⟩ := eqL_append h2
                  obtain ⟨hl1, hl2⟩ := eqL_len h2
                  simp only [List.length_append, List.length_drop] at hl1 hl2
                  obtain ⟨td, htd, hsc⟩ := eqTy_scalar hk1
                  obtain ⟨e1l, e1r⟩ := eqL_len e1
                  simp at e1l e1r
                  have hnm' : f.name ≠ "_" := by simpa using hnm
                  have e1' := ih f.type ks1 hk1 w _ _ b1 e1
                  have e2' := ihf (off + ks1.length) l b2 hl (by rw [← List.drop_drop, ← List.drop_drop]; exact e2)
                  rcases Nat.eq_zero_or_pos ks1.length with hz | hz
                  · -- nothing in it: no such field
                    have hp1 : ∀ (l : List Value), (part f.type l.toArray off).run P w = .ok (mkV P f.type ((l.drop off).take ks1.length)) w := by
                      intro l
                      unfold sizeB at hsz
                      split at hsz
                      · rename_i i hi
                        have hn := Nat.eq_of_beq_eq_true hsz
                        have hrow : isRowD td = true := by
                          cases hd : isRowD td with
                          | true => rfl
                          | false => have := hsc hd; omega
                        simp only [part, Sem.run_bind, isAgg_of htd, Result.andThen_ok, hrow, if_true, sizeOf_of hi, hn]
                        have : mkV P f.type ((l.drop off).take ks1.length) = .agg ((l.drop off).take ks1.length).toArray := by
                          unfold mkV; rw [htd]; cases td <;> simp [isRowD] at hrow <;> rfl
                        rw [this]
                        simp [hz]
                      · cases hsz
                    simp only [Op.eqFields, if_pos hnm', Sem.run_bind, hof', hp1, Result.andThen_ok, e1']
                    cases b1
                    · simp
                    · simpa using e2'
                  · have hp1 := part_mk hsz htd hsc w xs off (by omega)
                    have hp2 := part_mk hsz htd hsc w ys off (by omega)
                    simp only [Op.eqFields, if_pos hnm', Sem.run_bind, hof', hp1, hp2, Result.andThen_ok, e1']
                    cases b1
                    · simp
                    · simpa using e2'
                · cases h1
              · cases h1
            · cases h1
        exact key fs.toList 0 ks b h (by simpa using hb)
    · rename_i n e hu
      split at h
      · rename_i ks1 hk1
        split at h
        · rename_i hsz
          cases h
          obtain ⟨td, htd, hsc⟩ := eqTy_scalar hk1
          have hsz' := hsz
          unfold sizeB at hsz'
          split at hsz'
          · rename_i ie hie
            have hc : P.cellsOf e = ks1.length := by simp [Program.cellsOf, hie, Nat.eq_of_beq_eq_true hsz']
            simp only [mkV, hu]
            rw [run_equalIn_array w D xs.toArray ys.toArray hu hie, hc, List.range_eq_range']
            have key : ∀ (m s : Nat) (b : Bool), eqL' (List.replicate m ks1).flatten (xs.drop (s * ks1.length)) (ys.drop (s * ks1.length)) = some b →
                (Op.eqItems D e ks1.length xs.toArray ys.toArray (List.range' s m)).run P w = .ok b w := by
              intro m
              induction m with
              | zero =>
                intro s b h2
                simp at h2
                obtain ⟨_, _, rfl⟩ := eqL_nil h2
                simp [Op.eqItems]
              | succ m ihm =>
                intro s b h2
                rw [List.replicate_succ, List.flatten_cons] at h2
                obtain ⟨hl1, hl2⟩ := eqL_len h2
                simp only [List.length_append, List.length_drop] at hl1 hl2
                obtain ⟨b1, b2, e1, e2, rfl⟩ := eqL_append h2
                have e1' := ih e ks1 hk1 w _ _ b1 e1
                have e2' := ihm (s + 1) b2 (by rw [Nat.succ_mul, ← List.drop_drop, ← List.drop_drop]; exact e2)
                rw [List.range'_succ]
                have hp : ∀ (l : List Value), (l.length - s * ks1.length = ks1.length + (List.replicate m ks1).flatten.length) → (part e l.toArray (s * ks1.length)).run P w = .ok (mkV P e ((l.drop (s * ks1.length)).take ks1.length)) w := by
                  intro l hl
                  rcases Nat.eq_zero_or_pos ks1.length with hz | hz
                  · have hrow : isRowD td = true := by
                      cases hd : isRowD td with
                      | true => rfl
                      | false => have := hsc hd; omega
                    have hn := Nat.eq_of_beq_eq_true hsz'
                    simp only [part, Sem.run_bind, isAgg_of htd, Result.andThen_ok, hrow, if_true, sizeOf_of hie, hn]
                    have : mkV P e ((l.drop (s * ks1.length)).take ks1.length) = .agg ((l.drop (s * ks1.length)).take ks1.length).toArray := by
                      unfold mkV; rw [htd]; cases td <;> simp [isRowD] at hrow <;> rfl
                    rw [this]
                    simp [hz]
                  · exact part_mk hsz htd hsc w l (s * ks1.length) (by omega)
                simp only [Op.eqItems, Sem.run_bind, hp xs hl1, hp ys hl2, Result.andThen_ok, e1']
                cases b1
                · simp
                · simpa using e2'
            exact key n 0 b (by simpa using hb)
          · cases hsz'
        · cases h
      · cases h
    · cases h

theorem eqL_den {β : Nat → Bd} : ∀ {ks : List (Option IntKind)} {xs ys : List SV} {b : Bool}, eqL ks xs ys = some b → eqL' ks (xs.map (SV.den β)) (ys.map (SV.den β)) = some b
  | [], [], [], b, h => by simpa [eqL, eqL'] using h
  | [], x :: xs, _, b, h => by simp [eqL] at h
  | [], [], y :: ys, b, h => by simp [eqL] at h
  | k :: ks, xs, ys, b, h => by
    unfold eqL at h
    split at h
    · rename_i e; cases e
    · rename_i kk _ k1 a _ k2 b' _ e
      cases e
      split at h
      · rename_i h1 h2 hr
        cases h
        have h1 := kn_eq h1
        have h2 := kn_eq h2
        subst h1; subst h2
        exact eqL_int _ _ a b' _ _ (eqL_den hr)
      · cases h
    · rename_i _ a _ b' _ e
      cases e
      split at h
      · rename_i hr
        cases h
        exact eqL_bool _ a b' _ _ (eqL_den hr)
      · cases h
    · cases h

/-- == of structs of numbers and Bools. -/
theorem flatEq_of {P : Program} {t : TypeId} {ks : List (Option IntKind)} (hg : P.eqGuardType P.depth t = false) (hs : (P.underlying t).map isRowD = some true) (h : eqTy P 20 t = some ks) : FlatEq P t ks := by
  obtain ⟨d, hu, hd⟩ : ∃ d, P.underlying t = some d ∧ isRowD d = true := by
    cases hd : P.underlying t with
    | none => simp [hd] at hs
    | some d => exact ⟨d, rfl, by simpa [hd] using hs⟩
  refine ⟨hg, fun w β xs ys b hb => ?_⟩
  have := eqV_of 20 10000 t ks h (by omega) w _ _ b (eqL_den (β := β) hb)
  cases d <;> simp [isRowD] at hd <;> simpa [mkV, hu] using this

end Go.Sx

namespace Go.Sx
open Go Go.ChangeShapes Go.WideShapes Go.ChangeAt Go.RowKit

/-- A LAW, over views: true, and nothing that was there is written. -/
theorem law_below {P : Program} {f : FuncId} {args : List TV} {σ0 : List Ch} {γ : Type} {pc : γ → Prop} {σ1 : γ → List Ch} (h : TriS P f args σ0 pc (fun _ => .t (.s (.bool true))) σ1) (hv : onlyViews σ0 = true)
    {β : Nat → Bd} {w : World} (hs : ∀ (i : Nat) (c : Ch), σ0[i]? = some c → c.sat β (β i) w) :
    Calls P f (args.map (TV.den β)).toArray w fun e w' => e = .returned (.bool true) ∧ Below w.heap.size w w' := by
  have hfw := onlyViews_foot hv
  let φ : Heap := (List.range w.heap.size).filterMap fun g => (w.heap[g]?).map fun o => (g, o)
  have hφ : ∀ g, g < w.heap.size → (g, w.heap[g]!) ∈ φ := by
    intro g hg
    simp only [φ, List.mem_filterMap, List.mem_range]
    exact ⟨g, hg, by simp [hg]⟩
  have hsat : Sat β σ0 φ w := by
    refine ⟨?_, ?_, hs, ?_, fun c hc => (hfw c hc).2 _⟩
    · intro i j c d hc _ _ g hg
      rw [(hfw c (List.mem_of_getElem? hc)).1] at hg; simp at hg
    · intro i c hc g hg
      rw [(hfw c (List.mem_of_getElem? hc)).1] at hg; simp at hg
    · intro p hp
      simp only [φ, List.mem_filterMap, List.mem_range, Option.map_eq_some_iff] at hp
      obtain ⟨g, _, o, ho, rfl⟩ := hp
      exact ho
  refine (h.h β φ w hsat).mono ?_
  rintro e w' ⟨x, β', _, _, _, rfl, _, hs1, hsame, _⟩
  refine ⟨rfl, hsame.os, hsame.tape, hsame.output, hsame.size, fun k hk => ?_⟩
  have := hs1.frame _ (hφ k hk)
  rw [this]
  simp [hk]

/-- What is known of a slice of numbers that came in: its elements are l. -/
structure IsRow (k : IntKind) (w : World) (a : Option Addr) (len cap : Nat) (l : List Int) : Prop where
  hlen : l.length = len
  hcap : len ≤ cap
  hmax : cap ≤ maxLen
  nil : a = none → len = 0 ∧ cap = 0
  spot : ∀ x, a = some x → x.spot = none
  cell : ∀ x, a = some x → ∀ i, i < l.length → w.cell? (x.add i) = some (.int k (l.getD i 0))
  fit : ∀ n ∈ l, (Lit.int k n).wf = true

def rowBd : Option Addr → Bd
  | none => ⟨0, 0, true⟩
  | some x => ⟨x.block, x.off, false⟩

theorem IsRow.sat {k : IntKind} {w : World} {a : Option Addr} {len cap : Nat} {l : List Int} (h : IsRow k w a len cap l) (β : Nat → Bd) : (Ch.view (l.map (Value.int k))).sat β (rowBd a) w := by
  intro j v hv
  simp only [List.getElem?_map, Option.map_eq_some_iff] at hv
  obtain ⟨n, hn, rfl⟩ := hv
  have hj := (List.getElem?_eq_some_iff.1 hn).1
  cases a with
  | none =>
    have := (h.nil rfl).1
    have := h.hlen
    omega
  | some x =>
    have hc := h.cell x rfl j hj
    have hs := h.spot x rfl
    obtain ⟨b, o, s⟩ := x
    simp only at hs
    subst hs
    refine ⟨rfl, ?_⟩
    rw [addr_add] at hc
    show w.cell? ⟨b, o + j, none⟩ = _
    rw [hc]
    simp [List.getD, hn]

theorem IsRow.den {k : IntKind} {w : World} {a : Option Addr} {len cap : Nat} {l : List Int} (h : IsRow k w a len cap l) {β : Nat → Bd} {i : Nat} (hb : β i = rowBd a) : TV.den β (.s (.sl i 0 l.length cap)) = .slice a len cap := by
  cases a with
  | none => simp [TV.den, SV.den, hb, rowBd, h.hlen]
  | some x =>
    have hs := h.spot x rfl
    obtain ⟨b, o, s⟩ := x
    simp only at hs
    subst hs
    simp [TV.den, SV.den, hb, rowBd, h.hlen]

theorem okWide_spot {P : Program} {w : World} {r : Reach} {base : Nat} {t e : TypeId} {a : Addr} {len cap : Nat} (hu : P.underlying t = some (.slice e)) (h : Value.okWide P w r base t (.slice (some a) len cap)) : a.spot = none := by
  simp only [Value.okWide, hu, Cell.okWide, Cell.ok] at h
  exact h.2.2.2.1

/-- OPENING a slice of numbers. -/
theorem open_row {H : Type} {enc : TypeId × Value → H} {P : Program} {w : World} {base base' fuel : Nat} {held : Bool} {t e : TypeId} {k : IntKind} {a : Option Addr} {len cap : Nat} {x : DataW H × List MemPlace}
    (ht : P.underlying t = some (.slice e)) (he : P.underlying e = some (.int k)) (hc : P.cellsOf e = 1) (hv : Value.okWide P w .any base t (.slice a len cap))
    (h : DataW.trod enc P w base' (fun _ => true) held fuel t (Value.slice a len cap).cells.toList = some x) : ∃ l, IsRow k w a len cap l := by
  rcases open_ints ht he hc h with ⟨hcs, _⟩ | ⟨x, ln, c, zs, hcs, _, hl, hm, hz, _, hcell, hwz⟩
  · simp [Value.cells] at hcs
    obtain ⟨rfl, rfl, rfl⟩ := hcs
    exact ⟨[], rfl, Nat.le_refl _, Nat.zero_le _, fun _ => ⟨rfl, rfl⟩, fun x hx => (by cases hx), fun x hx => (by cases hx), fun n hn => (by cases hn)⟩
  · simp [Value.cells] at hcs
    obtain ⟨rfl, rfl, rfl⟩ := hcs
    simp at hz
    refine ⟨zs.take len, by simp; omega, hl, hm, fun hx => (by cases hx), fun y hy => (by cases hy; exact okWide_spot ht hv), fun y hy i hi => ?_, fun n hn => hwz n (List.mem_of_mem_take hn)⟩
    cases hy
    have hi' : i < zs.length := by simp at hi; omega
    rw [hcell i hi']
    simp at hi
    simp [List.getD, show i < len by omega]

end Go.Sx

namespace Go.Sx
open Go

/-- What a call may come to. -/
inductive Out : Type 1 where
  | ret (v : FV) (σ : List Ch)
  | ask (p : Prop) (o : Out)
  | br (b : Bool) (x y : Out)
  | all (γ : Type) (pc : γ → Prop) (o : γ → Out)
  | ex (γ : Type) (o : γ → Out)

noncomputable def Out.wp (K : FV → List Ch → Prop) (o : Out) : Prop :=
  Out.rec (motive := fun _ => Prop) (fun v σ => K v σ) (fun p _ ih => p ∧ ih) (fun b _ _ x y => (b = true → x) ∧ (b = false → y)) (fun γ pc _ ih => ∀ x : γ, pc x → ih x) (fun γ _ ih => ∃ x : γ, ih x) o

theorem Out.wp_mono {K K' : FV → List Ch → Prop} (h : ∀ v σ, K v σ → K' v σ) : ∀ {o : Out}, o.wp K → o.wp K'
  | .ret v σ, ho => h v σ ho
  | .ask _ _, ho => ⟨ho.1, Out.wp_mono h ho.2⟩
  | .br _ _ _, ho => ⟨fun hb => Out.wp_mono h (ho.1 hb), fun hb => Out.wp_mono h (ho.2 hb)⟩
  | .all _ _ _, ho => fun x hx => Out.wp_mono h (ho x hx)
  | .ex _ _, ho => let ⟨x, hx⟩ := ho; ⟨x, Out.wp_mono h hx⟩

theorem CallS.mono {P : Program} {f : FuncId} {args : List TV} {σ : List Ch} {k k' : FV → List Ch → Prop} (h : CallS P f args σ k) (hk : ∀ v σ', k v σ' → k' v σ') : CallS P f args σ k' := by
  refine ⟨fun β φ w hs => (h.h β φ w hs).mono ?_⟩
  rintro e w' ⟨x, β', hx, hr⟩
  exact ⟨x, β', hk _ _ hx, hr⟩

/-- A CONTRACT with outcomes. -/
def Con (P : Program) (f : FuncId) (args : List TV) (σ0 : List Ch) (o : Out) : Prop := ∀ K, o.wp K → CallS P f args σ0 K

/-! ### Values renumbered and written out -/
def nums : List Nat := [0, 1, 2, 3, 4, 5, 6, 7, 8, 9, 10, 11, 12, 13, 14, 15, 16, 17, 18, 19, 20, 21, 22, 23, 24, 25, 26, 27, 28, 29, 30, 31, 32, 33, 34, 35, 36, 37, 38, 39, 40, 41, 42, 43, 44, 45, 46, 47, 48, 49, 50, 51, 52, 53, 54, 55, 56, 57, 58, 59, 60, 61, 62, 63, 64, 65, 66, 67, 68, 69, 70, 71, 72, 73, 74, 75, 76, 77, 78, 79, 80, 81, 82, 83, 84, 85, 86, 87, 88, 89, 90, 91, 92, 93, 94, 95, 96, 97, 98, 99, 100, 101, 102, 103, 104, 105, 106, 107, 108, 109, 110, 111, 112, 113, 114, 115, 116, 117, 118, 119]

def natJ {γ : Type} (n0 : Nat) : List Nat → Nat → (Nat → γ) → γ
  | [], _, k => k n0
  | x :: _, 0, k => match Nat.beq n0 x with
    | true => k x
    | false => k n0
  | _ :: l, n + 1, k => natJ n0 l n k
theorem natJ_eq {γ : Type} {n0 : Nat} : ∀ (l : List Nat) (n : Nat) (k : Nat → γ), natJ n0 l n k = k n0
  | [], _, _ => rfl
  | x :: _, 0, k => by
    simp only [natJ]
    split
    · rename_i h; rw [Nat.eq_of_beq_eq_true h]
    · rfl
  | _ :: l, n + 1, k => natJ_eq l n k
/-- A number, as a numeral. -/
def natK {γ : Type} (n : Nat) (k : Nat → γ) : γ := natJ n nums n k
theorem natK_eq {γ : Type} (n : Nat) (k : Nat → γ) : natK n k = k n := natJ_eq _ _ _

section
variable {γ : Type} (ρ : Nat → Nat)

def frS : SV → (SV → γ) → γ
  | .loc i off, k => natK (ρ i) fun j => k (.loc j off)
  | .sl i off len cap, k => natK (ρ i) fun j => k (.sl j off len cap)
  | .int a b, k => k (.int a b)
  | .bool a, k => k (.bool a)
  | .str a, k => k (.str a)
  | .raw a, k => k (.raw a)
  | .mp i, k => natK (ρ i) fun j => k (.mp j)
theorem frS_eq (v : SV) (k : SV → γ) : frS ρ v k = k (v.rn ρ) := by cases v <;> simp only [frS, natK_eq, SV.rn]
def frSs : List SV → (List SV → γ) → γ
  | [], k => k []
  | v :: l, k => frS ρ v fun v' => frSs l fun l' => k (v' :: l')
theorem frSs_eq : ∀ (l : List SV) (k : List SV → γ), frSs ρ l k = k (l.map (SV.rn ρ))
  | [], _ => rfl
  | v :: l, k => by simp only [frSs, frS_eq, frSs_eq l, List.map_cons]
def frT : TV → (TV → γ) → γ
  | .s v, k => frS ρ v fun v' => k (.s v')
  | .agg l, k => frSs ρ l fun l' => k (.agg l')
  | .clo f a b, k => frSs ρ a fun a' => frSs ρ b fun b' => k (.clo f a' b')
  | .bnd f l, k => frSs ρ l fun l' => k (.bnd f l')
theorem frT_eq (v : TV) (k : TV → γ) : frT ρ v k = k (v.rn ρ) := by cases v <;> simp only [frT, frS_eq, frSs_eq, TV.rn]
def frTs : List TV → (List TV → γ) → γ
  | [], k => k []
  | v :: l, k => frT ρ v fun v' => frTs l fun l' => k (v' :: l')
theorem frTs_eq : ∀ (l : List TV) (k : List TV → γ), frTs ρ l k = k (l.map (TV.rn ρ))
  | [], _ => rfl
  | v :: l, k => by simp only [frTs, frT_eq, frTs_eq l, List.map_cons]
def frF : FV → (FV → γ) → γ
  | .t v, k => frT ρ v fun v' => k (.t v')
  | .tup l, k => frTs ρ l fun l' => k (.tup l')
theorem frF_eq (v : FV) (k : FV → γ) : frF ρ v k = k (v.rn ρ) := by cases v <;> simp only [frF, frT_eq, frTs_eq, FV.rn]
def frM : List (IntKind × Int × TV) → (List (IntKind × Int × TV) → γ) → γ
  | [], k => k []
  | e :: l, k => frT ρ e.2.2 fun v => frM l fun l' => k ((e.1, e.2.1, v) :: l')
theorem frM_eq : ∀ (l : List (IntKind × Int × TV)) (k : List (IntKind × Int × TV) → γ), frM ρ l k = k (mpRn ρ l)
  | [], _ => rfl
  | e :: l, k => by simp only [frM, frT_eq, frM_eq l, mpRn]
def frC : Ch → (Ch → γ) → γ
  | .blk e cs, k => frSs ρ cs fun cs' => k (.blk e cs')
  | .arr e xs, k => k (.arr e xs)
  | .own e sz cap xs, k => k (.own e sz cap xs)
  | .deep ps, k => k (.deep ps)
  | .view xs, k => k (.view xs)
  | .dead, k => k .dead
  | .mp es, k => frM ρ es fun es' => k (.mp es')
theorem frC_eq (v : Ch) (k : Ch → γ) : frC ρ v k = k (v.rn ρ) := by cases v <;> simp only [frC, frSs_eq, frM_eq, Ch.rn]
def frCs : List Ch → (List Ch → γ) → γ
  | [], k => k []
  | v :: l, k => frC ρ v fun v' => frCs l fun l' => k (v' :: l')
theorem frCs_eq : ∀ (l : List Ch) (k : List Ch → γ), frCs ρ l k = k (l.map (Ch.rn ρ))
  | [], _ => rfl
  | v :: l, k => by simp only [frCs, frC_eq, frCs_eq l, List.map_cons]
end

theorem SV.rn_id (v : SV) : v.rn (fun i => i) = v := by cases v <;> rfl
theorem SVs.rn_id (l : List SV) : l.map (SV.rn fun i => i) = l := (List.map_congr_left fun v _ => SV.rn_id v).trans (List.map_id' l)
theorem TV.rn_id (v : TV) : v.rn (fun i => i) = v := by cases v <;> simp only [TV.rn, SVs.rn_id, SV.rn_id]
theorem mpRn_id : ∀ (l : List (IntKind × Int × TV)), mpRn (fun i => i) l = l
  | [] => rfl
  | e :: l => by simp only [mpRn, TV.rn_id, mpRn_id l]
theorem Ch.rn_id (c : Ch) : c.rn (fun i => i) = c := by cases c <;> simp only [Ch.rn, SVs.rn_id, mpRn_id]
theorem Chs.rn_id (l : List Ch) : l.map (Ch.rn fun i => i) = l := (List.map_congr_left fun v _ => Ch.rn_id v).trans (List.map_id' l)

/-! ### The chunks that are reached -/
def numsS : SV → List Nat
  | .loc i _ => [i]
  | .sl i _ _ _ => [i]
  | .mp i => [i]
  | _ => []
def numsSs : List SV → List Nat
  | [] => []
  | v :: l => numsS v ++ numsSs l
def numsT : TV → List Nat
  | .s v => numsS v
  | .agg l => numsSs l
  | .clo _ a b => numsSs a ++ numsSs b
  | .bnd _ l => numsSs l
def numsTs : List TV → List Nat
  | [] => []
  | v :: l => numsT v ++ numsTs l
def numsM : List (IntKind × Int × TV) → List Nat
  | [] => []
  | e :: l => numsT e.2.2 ++ numsM l
def numsC : Ch → List Nat
  | .blk _ cs => numsSs cs
  | .mp es => numsM es
  | _ => []
def numsCs : List Ch → List Nat
  | [] => []
  | c :: l => numsC c ++ numsCs l

def addAll {γ : Type} : List Nat → List Nat → (List Nat → γ) → γ
  | [], acc, k => k acc
  | n :: l, acc, k => match elemN n acc with
    | true => addAll l acc k
    | false => forceL (acc ++ [n]) fun acc' => addAll l acc' k

def discL {γ : Type} (σ : List Ch) : Nat → Nat → List Nat → (List Nat → γ) → γ
  | 0, _, acc, k => k acc
  | f + 1, p, acc, k => match acc[p]? with
    | none => k acc
    | some i => match σ[i]? with
      | some (.blk _ cs) => addAll (numsSs cs) acc fun acc' => discL σ f (p + 1) acc' k
      | _ => discL σ f (p + 1) acc k

theorem addAll_ex {γ : Type} : ∀ (l acc : List Nat) (k : List Nat → γ), ∃ r, addAll l acc k = k r
  | [], acc, k => ⟨acc, rfl⟩
  | n :: l, acc, k => by
    simp only [addAll]
    split
    · exact addAll_ex l acc k
    · rw [forceL_eq]; exact addAll_ex l _ k
theorem discL_ex {γ : Type} {σ : List Ch} : ∀ (f p : Nat) (acc : List Nat) (k : List Nat → γ), ∃ r, discL σ f p acc k = k r
  | 0, _, acc, k => ⟨acc, rfl⟩
  | f + 1, p, acc, k => by
    simp only [discL]
    split
    · exact ⟨acc, rfl⟩
    · split
      · rename_i cs _
        obtain ⟨r, hr⟩ := addAll_ex (numsSs cs) acc (fun acc' => discL σ f (p + 1) acc' k)
        rw [hr]; exact discL_ex f _ r k
      · exact discL_ex f _ acc k

def idx : List Nat → Nat → Nat
  | [], _ => 0
  | x :: l, n => match Nat.beq n x with
    | true => 0
    | false => idx l n + 1
theorem idx_get : ∀ {l : List Nat} {n : Nat}, n ∈ l → l[idx l n]? = some n
  | [], n, h => by simp at h
  | x :: l, n, h => by
    unfold idx
    split
    · rename_i hb; simp [Nat.eq_of_beq_eq_true hb]
    · rename_i hb
      have hne : n ≠ x := fun e => by subst e; rw [Nat.beq_refl] at hb; cases hb
      rcases List.mem_cons.1 h with h | h
      · exact absurd h hne
      · simpa using idx_get h

def allIn (sel : List Nat) : List Nat → Bool
  | [] => true
  | n :: l => match elemN n sel with
    | true => allIn sel l
    | false => false
theorem allIn_spec {sel : List Nat} : ∀ {l : List Nat}, allIn sel l = true → ∀ n ∈ l, n ∈ sel
  | [], _ => by simp
  | n :: l, h => by
    unfold allIn at h
    split at h
    · rename_i he
      intro m hm
      rcases List.mem_cons.1 hm with rfl | hm
      · exact elemN_true he
      · exact allIn_spec h m hm
    · cases h

section
variable {sel : List Nat} {base : Nat}
theorem rnk_idx {n : Nat} (h : n ∈ sel) : rnk sel base (idx sel n) = n := rnk_sel (idx_get h)
theorem SV.back {v : SV} (h : ∀ n ∈ numsS v, n ∈ sel) : (v.rn (idx sel)).rn (rnk sel base) = v := by
  cases v <;> simp only [SV.rn, numsS, List.mem_singleton, forall_eq] at * <;> rw [rnk_idx h]
theorem SVs.back : ∀ {l : List SV}, (∀ n ∈ numsSs l, n ∈ sel) → (l.map (SV.rn (idx sel))).map (SV.rn (rnk sel base)) = l
  | [], _ => rfl
  | v :: l, h => by
    simp only [List.map_cons, SV.back (v := v) fun n hn => h n (by simp [numsSs, hn]), SVs.back (l := l) fun n hn => h n (by simp [numsSs, hn])]
theorem TV.back {v : TV} (h : ∀ n ∈ numsT v, n ∈ sel) : (v.rn (idx sel)).rn (rnk sel base) = v := by
  cases v with
  | s v => simp only [TV.rn, SV.back h]
  | agg l => simp only [TV.rn, SVs.back h]
  | bnd f l => simp only [TV.rn, SVs.back (l := l) fun n hn => h n (by simp [numsT, hn])]
  | clo f a b => simp only [TV.rn, SVs.back (l := a) fun n hn => h n (by simp [numsT, hn]), SVs.back (l := b) fun n hn => h n (by simp [numsT, hn])]
theorem TVs.back : ∀ {l : List TV}, (∀ n ∈ numsTs l, n ∈ sel) → (l.map (TV.rn (idx sel))).map (TV.rn (rnk sel base)) = l
  | [], _ => rfl
  | v :: l, h => by
    simp only [List.map_cons, TV.back (v := v) fun n hn => h n (by simp [numsTs, hn]), TVs.back (l := l) fun n hn => h n (by simp [numsTs, hn])]
theorem Ms.back : ∀ {l : List (IntKind × Int × TV)}, (∀ n ∈ numsM l, n ∈ sel) → mpRn (rnk sel base) (mpRn (idx sel) l) = l
  | [], _ => rfl
  | e :: l, h => by
    simp only [mpRn, TV.back (v := e.2.2) fun n hn => h n (by simp [numsM, hn]), Ms.back (l := l) fun n hn => h n (by simp [numsM, hn])]
theorem Ch.back {v : Ch} (h : ∀ n ∈ numsC v, n ∈ sel) : (v.rn (idx sel)).rn (rnk sel base) = v := by
  cases v with
  | blk e cs => simp only [Ch.rn, SVs.back h]
  | mp es => simp only [Ch.rn, Ms.back h]
  | _ => rfl
theorem Chs.back : ∀ {l : List Ch}, (∀ n ∈ numsCs l, n ∈ sel) → (l.map (Ch.rn (idx sel))).map (Ch.rn (rnk sel base)) = l
  | [], _ => rfl
  | v :: l, h => by
    simp only [List.map_cons, Ch.back (v := v) fun n hn => h n (by simp [numsCs, hn]), Chs.back (l := l) fun n hn => h n (by simp [numsCs, hn])]
end

/-- THE FRAME RULE, for calls. -/
theorem CallS.lift {P : Program} {f : FuncId} {cargs args : List TV} {σ0 σ : List Ch} {sel : List Nat} {k : FV → List Ch → Prop} (hnd : sel.Nodup)
    (hp : pickL σ sel = some (σ0.map (Ch.rn (rnk sel σ.length)))) (hw0 : ∀ c ∈ σ0, c.wf σ0.length) (hargs : args = cargs.map (TV.rn (rnk sel σ.length)))
    (h : CallS P f cargs σ0 fun v τ => k (v.rn (rnk sel σ.length)) (merged σ sel τ)) : CallS P f args σ k := by
  refine ⟨fun β φ w hs => ?_⟩
  subst hargs
  have e2 : (cargs.map (TV.rn (rnk sel σ.length))).map (TV.den β) = cargs.map (TV.den fun k => β (rnk sel σ.length k)) := by
    rw [List.map_map]; exact List.map_congr_left fun v _ => TV.den_rn v
  rw [e2]
  obtain ⟨ψ, hs0, back⟩ := hs.frameOut hnd hp hw0
  refine (h.h _ ψ w hs0).mono ?_
  rintro e w' ⟨⟨v, τ⟩, β', hk, hag, hle, rfl, hfw, hs1, hsame, hsrc⟩
  obtain ⟨β'', b1, b2, hs'⟩ := back β' τ w' hs1 hag hle hsame hsrc
  have hlen := pickL_len hp
  simp only [List.length_map] at hlen
  simp only at hle hfw
  have hml : (merged σ sel τ).length = σ.length + (τ.length - sel.length) := by simp [merged, putBack_length]
  have rlt : ∀ k, k < τ.length → rnk sel σ.length k < (merged σ sel τ).length := by
    intro k hk
    rw [hml]
    cases hk' : sel[k]? with
    | some i => rw [rnk_sel hk']; have := pickL_lt hp i (List.mem_of_getElem? hk'); omega
    | none =>
      have hkl : sel.length ≤ k := by simpa using hk'
      rw [rnk_new hkl]; omega
  refine ⟨(v.rn (rnk sel σ.length), merged σ sel τ), β'', hk, b1, by simp only [hml]; omega, ?_, FV.wf_rn rlt hfw, hs', hsame, ?_⟩
  · rw [FV.den_rn]
    congr 1
    exact (FV.den_ext (m := τ.length) (fun k hk => b2 k hk) hfw).symm
  · intro j dd hj g hgm
    simp only at hj
    unfold merged at hj
    have hpb := putBack_length sel (τ.map (Ch.rn (rnk sel σ.length))) σ
    have fromτ : ∀ (k : Nat) (c : Ch), τ[k]? = some c → dd = c.rn (rnk sel σ.length) → β'' j = β' k → Feet β σ g ∨ w.heap.size ≤ g := by
      intro k c hk hdc hbj
      subst hdc
      rw [hbj, Ch.rfoot_rn] at hgm
      rcases hsrc k c hk g hgm with ⟨q, c0, hq, hgq⟩ | hge
      · obtain ⟨i', h1, h2⟩ := pickL_get hp q (c0.rn (rnk sel σ.length)) (by simp [hq])
        replace hgq : g ∈ c0.rfoot (β (rnk sel σ.length q)) := hgq
        rw [rnk_sel h1] at hgq
        exact .inl ⟨i', _, h2, by rw [Ch.rfoot_rn]; exact hgq⟩
      · exact .inr hge
    rcases Nat.lt_or_ge j σ.length with hjl | hjl
    · rw [List.getElem?_append_left (by rw [hpb]; exact hjl)] at hj
      by_cases hjs : j ∈ sel
      · obtain ⟨k, hk⟩ := List.getElem?_of_mem hjs
        have hkl := (List.getElem?_eq_some_iff.1 hk).1
        have hkt : k < τ.length := by omega
        rw [putBack_here sel _ σ k j (τ[k].rn (rnk sel σ.length)) hnd hk (by simp [hkt]) hjl] at hj
        have := b2 k hkt
        rw [rnk_sel hk] at this
        exact fromτ k _ (List.getElem?_eq_getElem hkt) (Option.some.inj hj).symm this
      · rw [putBack_other sel _ σ j hjs] at hj
        rw [b1 j hjl] at hgm
        exact .inl ⟨j, dd, hj, hgm⟩
    · rw [List.getElem?_append_right (by rw [hpb]; exact hjl), hpb] at hj
      simp only [List.getElem?_map, List.getElem?_drop, Option.map_eq_some_iff] at hj
      obtain ⟨c, hc', rfl⟩ := hj
      have hkt := (List.getElem?_eq_some_iff.1 hc').1
      have := b2 _ hkt
      rw [rnk_new (by omega), show σ.length + (sel.length + (j - σ.length) - sel.length) = j by omega] at this
      exact fromτ _ c hc' rfl this

/-- A contract, by patterns on the renumbered arguments and chunks, as an entry of the table. -/
def conS {P : Program} {f : FuncId} (inst : (cargs : List TV) → (σ0 : List Ch) → Option {o : Out // Con P f cargs σ0 o}) (args : List TV) (σ : List Ch) (k : FV → List Ch → Prop) : Option Prop :=
  addAll (numsTs args) [] fun acc => discL σ 60 0 acc fun sel =>
    match pickL σ sel with
    | none => none
    | some r => frTs (idx sel) args fun cargs => frCs (idx sel) r fun σ0 =>
      match nodupB sel, allIn sel (numsTs args), allIn sel (numsCs r), allB (Ch.wfB σ0.length) σ0 with
      | true, true, true, true => match inst cargs σ0 with
        | some o => natK σ.length fun n => some (o.1.wp fun v τ => frF (rnk sel n) v fun v' => frCs (fun i => i) (merged σ sel τ) fun σ' => k v' σ')
        | none => none
      | _, _, _, _ => none

theorem con_ok {P : Program} {f : FuncId} (hcal : Sx.Callee P f) (inst : (cargs : List TV) → (σ0 : List Ch) → Option {o : Out // Con P f cargs σ0 o}) : StOk P f (conS inst) := by
  refine ⟨hcal, fun args σ k R h hR => ?_⟩
  unfold conS at h
  obtain ⟨acc, hacc⟩ := addAll_ex (numsTs args) [] (fun acc => discL σ 60 0 acc fun sel =>
    match pickL σ sel with
    | none => none
    | some r => frTs (idx sel) args fun cargs => frCs (idx sel) r fun σ0 =>
      match nodupB sel, allIn sel (numsTs args), allIn sel (numsCs r), allB (Ch.wfB σ0.length) σ0 with
      | true, true, true, true => match inst cargs σ0 with
        | some o => natK σ.length fun n => some (o.1.wp fun v τ => frF (rnk sel n) v fun v' => frCs (fun i => i) (merged σ sel τ) fun σ' => k v' σ')
        | none => none
      | _, _, _, _ => none)
  rw [hacc] at h
  obtain ⟨sel, hsel⟩ := discL_ex (σ := σ) 60 0 acc (fun sel =>
    match pickL σ sel with
    | none => none
    | some r => frTs (idx sel) args fun cargs => frCs (idx sel) r fun σ0 =>
      match nodupB sel, allIn sel (numsTs args), allIn sel (numsCs r), allB (Ch.wfB σ0.length) σ0 with
      | true, true, true, true => match inst cargs σ0 with
        | some o => natK σ.length fun n => some (o.1.wp fun v τ => frF (rnk sel n) v fun v' => frCs (fun i => i) (merged σ sel τ) fun σ' => k v' σ')
        | none => none
      | _, _, _, _ => none)
  rw [hsel] at h
  split at h
  · cases h
  · rename_i r hr
    rw [frTs_eq, frCs_eq] at h
    split at h
    · rename_i h1 h2 h3 h4
      split at h
      · rename_i o ho
        rw [natK_eq] at h
        cases h
        have hcs := o.2 _ hR
        have e1 : (args.map (TV.rn (idx sel))).map (TV.rn (rnk sel σ.length)) = args := TVs.back (allIn_spec h2)
        have e2 : (r.map (Ch.rn (idx sel))).map (Ch.rn (rnk sel σ.length)) = r := Chs.back (allIn_spec h3)
        refine CallS.lift (nodupB_spec h1) (by rw [e2]; exact hr) (fun c hc => Ch.wfB_spec (allB_spec h4 c hc)) e1.symm (hcs.mono fun v τ hk => ?_)
        rw [frF_eq, frCs_eq, Chs.rn_id] at hk
        exact hk
      · cases h
    · cases h

/-- LEAVING, towards an outcome. -/
theorem fin_k {X : Cx} {tt : TT} (htt : TTok X.P tt) {fr : Fr} {σ : List Ch} {fn : Func} {K : FV → List Ch → Prop} {rs : List ResultVar} (hrs : fn.results = rs.toArray) {l : List TV}
    (h : resL tt fr σ rs = some l) {v : FV} {σ1 : List Ch} (hK : K v σ1) (sel : List Nat) (hv : packF l = v.rn fun k => sel.getD k 0)
    (hp : pickL σ sel = some (σ1.map (Ch.rn fun k => sel.getD k 0))) (hs : selOk 0 X.m sel = true) (hnd : nodupB sel = true)
    (hw1 : v.wfB σ1.length = true) (hw2 : allB (Ch.wfB σ1.length) σ1 = true) (hds : X.ds = [] := by rfl) :
    WpE X (bodyPost X.P fn (Leaves X.φ X.w0 X.m X.β0 X.F (γ := FV × List Ch) (fun x => K x.1 x.2) (fun x => x.1) (fun x => x.2))) .ret fr σ :=
  fin_ret htt hrs h (v, σ1) sel hK hv hp hs hnd hw1 hw2 hds
theorem fin_ke {X : Cx} {tt : TT} (htt : TTok X.P tt) {fr : Fr} {σ : List Ch} {fn : Func} {K : FV → List Ch → Prop} {rs : List ResultVar} (hrs : fn.results = rs.toArray) {l : List TV}
    (h : resL tt fr σ rs = some l) {v : FV} {σ1 : List Ch} (hK : K v σ1) (sel : List Nat) (hv : packF l = v.rn fun k => sel.getD k 0)
    (hp : pickL σ sel = some (σ1.map (Ch.rn fun k => sel.getD k 0))) (hs : selOk 0 X.m sel = true) (hnd : nodupB sel = true)
    (hw1 : v.wfB σ1.length = true) (hw2 : allB (Ch.wfB σ1.length) σ1 = true) (hds : X.ds = [] := by rfl) :
    WpE X (bodyPost X.P fn (Leaves X.φ X.w0 X.m X.β0 X.F (γ := FV × List Ch) (fun x => K x.1 x.2) (fun x => x.1) (fun x => x.2))) .normal fr σ :=
  fin_end htt hrs h (v, σ1) sel hK hv hp hs hnd hw1 hw2 hds

/-- A contract with one outcome, of a function that only computes. -/
theorem Con.pure {P : Program} {f : FuncId} {args : List TV} {v : FV} (h : Con P f args [] (.ret v [])) : Pure P f args v := by
  have h' := h (fun v' σ' => v' = v ∧ σ' = []) ⟨rfl, rfl⟩
  refine ⟨fun β φ w hs => (h'.h β φ w hs).mono ?_⟩
  rintro e w' ⟨⟨v', σ'⟩, β', ⟨h1, h2⟩, hr⟩
  simp only at h1 h2 hr
  subst h1; subst h2
  exact ⟨(), β', trivial, hr⟩

open Go.RowKit in
/-- A LAW, over views: true, and nothing that was there is written. -/
theorem law_con {P : Program} {f : FuncId} {args : List TV} {σ0 σ1 : List Ch} (h : Con P f args σ0 (.ret (.t (.s (.bool true))) σ1)) (hv : onlyViews σ0 = true)
    {β : Nat → Bd} {w : World} (hs : ∀ (i : Nat) (c : Ch), σ0[i]? = some c → c.sat β (β i) w) :
    Calls P f (args.map (TV.den β)).toArray w fun e w' => e = .returned (.bool true) ∧ Below w.heap.size w w' := by
  have h' := h (fun v' σ' => v' = .t (.s (.bool true)) ∧ σ' = σ1) ⟨rfl, rfl⟩
  refine law_below (γ := Unit) (pc := fun _ => True) (σ1 := fun _ => σ1) ⟨fun β φ w hs => (h'.h β φ w hs).mono ?_⟩ hv hs
  rintro e w' ⟨⟨v', σ'⟩, β', ⟨h1, h2⟩, hr⟩
  simp only at h1 h2 hr
  subst h1; subst h2
  exact ⟨(), β', trivial, hr⟩

end Go.Sx

namespace Go.Proofs
open Go Go.Sx

def I32 (a : Int) : Prop := -2147483648 ≤ a ∧ a ≤ 2147483647
/-- A word's unsigned value; the word of a number. -/
def Uw (a : Int) : Int := a % 4294967296
def Wd (n : Int) : Int := (n + 2147483648) % 4294967296 - 2147483648
theorem Wd_i32 (n : Int) : I32 (Wd n) := by unfold I32 Wd; omega
theorem Uw_Wd (n : Int) : Uw (Wd n) = n % 4294967296 := by unfold Uw Wd; omega
theorem Wd_of {n : Int} (h : I32 n) : Wd n = n := by unfold I32 at h; unfold Wd; omega
theorem Wd_Uw (n : Int) : Wd (Uw n) = Wd n := by unfold Uw Wd; omega
theorem wrapW (n : Int) : IntKind.i32.wrap n = Wd n := IntKind.wrap_i32 n
theorem Uw_lo (a : Int) : 0 ≤ Uw a := by unfold Uw; omega
theorem Uw_hi (a : Int) : Uw a < 4294967296 := by unfold Uw; omega
/-- A double word's value. -/
def Dv (hi lo : Int) : Int := Uw hi * 4294967296 + Uw lo
theorem Dv_lo (a b : Int) : 0 ≤ Dv a b := by unfold Dv Uw; omega
theorem Dv_hi (a b : Int) : Dv a b < 18446744073709551616 := by unfold Dv Uw; omega
theorem Dv_split (z : Int) (h0 : 0 ≤ z) (h1 : z < 18446744073709551616) : Dv (Wd (z / 4294967296)) (Wd z) = z := by unfold Dv Uw Wd; omega

def lgAdd (a b c : Int) : Int := Wd (a + b + c % 2)
def lgAddO (a b c : Int) : Bool := a + b + c % 2 != Wd (a + b + c % 2)
def lgSub (a b c : Int) : Int := Wd (a - b - c % 2)
def lgSubO (a b c : Int) : Bool := a - b - c % 2 != Wd (a - b - c % 2)
def lgSum (a b c : Int) : Int := Wd (a + b + c % 2)
def lgSumC (a b c : Int) : Int := (Uw a + Uw b + c % 2) / 4294967296
def lgDiff (a b c : Int) : Int := Wd (a - b - c % 2)
def lgDiffC (a b c : Int) : Int := -((Uw a - Uw b - c % 2) / 4294967296)
def lgMul (a b c : Int) : Int := Wd (Uw a * Uw b + Uw c)
def lgMulH (a b c : Int) : Int := Wd ((Uw a * Uw b + Uw c) / 4294967296)
def lgDivO (hi d : Int) : Bool := decide (Uw hi ≥ Uw d)
def lgDiv (hi lo d : Int) : Int := Wd (Dv hi lo / Uw d)
def lgRem (hi lo d : Int) : Int := Wd (Dv hi lo % Uw d)
/-- Shifts of a double word's value. -/
def shlV (z n : Int) : Int := z * 2 ^ (Uw n).toNat % 18446744073709551616
def shrV (z n : Int) : Int := z / 2 ^ (Uw n).toNat
def lgShlH (hi lo n : Int) : Int := Wd (shlV (Dv hi lo) n / 4294967296)
def lgShl (hi lo n : Int) : Int := Wd (shlV (Dv hi lo) n)
def lgShrH (hi lo n : Int) : Int := Wd (shrV (Dv hi lo) n / 4294967296)
def lgShr (hi lo n : Int) : Int := Wd (shrV (Dv hi lo) n)
/-- How many zero bits stand ahead. -/
def lzN (z : Int) : Int := if z = 0 then 64 else 63 - (Nat.log2 z.toNat : Int)
def lgNormH (hi lo : Int) : Int := if Dv hi lo = 0 then 0 else lgShlH hi lo (lzN (Dv hi lo))
def lgNorm (hi lo : Int) : Int := if Dv hi lo = 0 then 0 else lgShl hi lo (lzN (Dv hi lo))
def lgSign (v : Int) : Int := if v < 0 then -1 else 0

theorem and1_i32 (v : Int) : bits .and .i32 v 1 = v % 2 := by
  have e : bits .and .i32 v 1 = IntKind.i32.wrap ((BitVec.ofInt 32 v &&& BitVec.ofInt 32 1).toNat : Int) := rfl
  have e15 : (BitVec.ofInt 32 1).toNat = 2 ^ 1 - 1 := by decide
  rw [e, BitVec.toNat_and, BitVec.toNat_ofInt, e15, Nat.and_two_pow_sub_one_eq_mod, IntKind.wrap_i32]
  omega

/-! ### Bits, the lowest first -/
def valL : List Int → Int
  | [] => 0
  | b :: l => b + 2 * valL l
def Bits (l : List Int) : Prop := ∀ b ∈ l, b = 0 ∨ b = 1
/-- n bits of value v. -/
structure IsB (l : List Int) (n : Nat) (v : Int) : Prop where
  len : l.length = n
  bits : Bits l
  val : valL l = v

theorem Bits.cons {b : Int} {l : List Int} (h : Bits (b :: l)) : (b = 0 ∨ b = 1) ∧ Bits l := ⟨h b (by simp), fun x hx => h x (by simp [hx])⟩
theorem valL_append : ∀ (x y : List Int), valL (x ++ y) = valL x + 2 ^ x.length * valL y
  | [], y => by simp [valL]
  | b :: x, y => by
    simp only [List.cons_append, valL, valL_append x y, List.length_cons, Int.pow_succ]
    rw [show (2 : Int) ^ x.length * 2 * valL y = 2 * (2 ^ x.length * valL y) by rw [Int.mul_comm _ 2, Int.mul_assoc]]
    omega
theorem pow2_pos (n : Nat) : (0 : Int) < 2 ^ n := Int.pow_pos (by decide)
theorem valL_range : ∀ {l : List Int}, Bits l → 0 ≤ valL l ∧ valL l < 2 ^ l.length
  | [], _ => by simp [valL]
  | b :: l, h => by
    obtain ⟨h1, h2⟩ := h.cons
    have ih := valL_range h2
    simp only [valL, List.length_cons, Int.pow_succ]
    omega
theorem Bits.append {x y : List Int} (hx : Bits x) (hy : Bits y) : Bits (x ++ y) := fun b hb => (List.mem_append.1 hb).elim (hx b) (hy b)
theorem Bits.take {x : List Int} (hx : Bits x) (n : Nat) : Bits (x.take n) := fun b hb => hx b (List.mem_of_mem_take hb)
theorem Bits.drop {x : List Int} (hx : Bits x) (n : Nat) : Bits (x.drop n) := fun b hb => hx b (List.mem_of_mem_drop hb)
theorem Bits.zeros (n : Nat) : Bits (List.replicate n 0) := fun _ hb => .inl (List.mem_replicate.1 hb).2
theorem valL_zeros : ∀ n : Nat, valL (List.replicate n 0) = 0
  | 0 => rfl
  | n + 1 => by simp [List.replicate_succ, valL, valL_zeros n]
theorem valL_take {l : List Int} (h : Bits l) {k : Nat} (hk : k ≤ l.length) : valL (l.take k) = valL l % 2 ^ k := by
  have e := valL_append (l.take k) (l.drop k)
  rw [List.take_append_drop] at e
  have hr := valL_range (h.take k)
  rw [List.length_take, Nat.min_eq_left hk] at hr e
  rw [e, Int.add_mul_emod_self_left, Int.emod_eq_of_lt hr.1 hr.2]
theorem valL_drop {l : List Int} (h : Bits l) {k : Nat} (hk : k ≤ l.length) : valL (l.drop k) = valL l / 2 ^ k := by
  have e := valL_append (l.take k) (l.drop k)
  rw [List.take_append_drop] at e
  have hr := valL_range (h.take k)
  rw [List.length_take, Nat.min_eq_left hk] at hr e
  have hp := pow2_pos k
  rw [e, Int.add_mul_ediv_left _ _ (by omega), Int.ediv_eq_zero_of_lt hr.1 hr.2]
  omega
theorem valL_get {l : List Int} (h : Bits l) {i : Nat} (hi : i < l.length) : l.getD i 0 = valL l / 2 ^ i % 2 := by
  rw [← valL_drop h (by omega)]
  have hd : l.drop i = l.getD i 0 :: l.drop (i + 1) := by rw [List.drop_eq_getElem_cons hi]; simp [hi]
  have hb := h.drop i
  rw [hd] at hb ⊢
  have := hb.cons.1
  simp only [valL]
  omega
theorem Bits.get {l : List Int} (h : Bits l) {i : Nat} (hi : i < l.length) : l.getD i 0 = 0 ∨ l.getD i 0 = 1 := h _ (by simp [hi])

/-- Results, written out. -/
theorem t1 {k : IntKind} {a b : Int} (h : a = b) : FV.t (.s (.int k a)) = .t (.s (.int k b)) := by rw [h]
theorem t1b {a b : Bool} (h : a = b) : FV.t (.s (.bool a)) = .t (.s (.bool b)) := by rw [h]
theorem t2 {k k' : IntKind} {a b a' b' : Int} (h : a = a') (h' : b = b') : FV.tup [.s (.int k a), .s (.int k' b)] = .tup [.s (.int k a'), .s (.int k' b')] := by rw [h, h']
theorem t2b {k : IntKind} {a a' : Int} {b b' : Bool} (h : a = a') (h' : b = b') : FV.tup [.s (.int k a), .s (.bool b)] = .tup [.s (.int k a'), .s (.bool b')] := by rw [h, h']
theorem t3 {k k' k'' : IntKind} {a b c a' b' c' : Int} (h : a = a') (h' : b = b') (h'' : c = c') : FV.tup [.s (.int k a), .s (.int k' b), .s (.int k'' c)] = .tup [.s (.int k a'), .s (.int k' b'), .s (.int k'' c')] := by rw [h, h', h'']
theorem t3b {k k' : IntKind} {a b a' b' : Int} {c c' : Bool} (h : a = a') (h' : b = b') (h'' : c = c') : FV.tup [.s (.int k a), .s (.int k' b), .s (.bool c)] = .tup [.s (.int k a'), .s (.int k' b'), .s (.bool c')] := by rw [h, h', h'']
end Go.Proofs
namespace Go.Proofs
open Go Go.Sx
theorem fdiv32u (x : Int) : x.fdiv (2 ^ min 32 IntKind.u64.bits) = x / 4294967296 := Int.fdiv_eq_ediv_of_nonneg _ (by decide)
theorem fdiv31u (x : Int) : x.fdiv (2 ^ min 31 IntKind.u32.bits) = x / 2147483648 := Int.fdiv_eq_ediv_of_nonneg _ (by decide)
theorem mul_range {x y : Int} (hx : 0 ≤ x) (hx' : x < 4294967296) (hy : 0 ≤ y) (hy' : y < 4294967296) : 0 ≤ x * y ∧ x * y ≤ 18446744065119617025 := by
  refine ⟨Int.mul_nonneg hx hy, ?_⟩
  have := Int.mul_le_mul (show x ≤ 4294967295 by omega) (show y ≤ 4294967295 by omega) hy (by decide)
  omega
theorem mul_U (a b : Int) : 0 ≤ Uw a * Uw b ∧ Uw a * Uw b ≤ 18446744065119617025 := mul_range (Uw_lo a) (Uw_hi a) (Uw_lo b) (Uw_hi b)

/-- A word of 32 bits. -/
abbrev V32 (n : Int) : BitVec 32 := BitVec.ofInt 32 n
theorem bits_u32 (op : BinOp) (f : BitVec 32 → BitVec 32 → BitVec 32) (hf : ∀ x y, bits op .u32 x y = IntKind.u32.wrap ((f (V32 x) (V32 y)).toNat : Int)) (x y : Int) :
    V32 (bits op .u32 x y) = f (V32 x) (V32 y) ∧ 0 ≤ bits op .u32 x y ∧ bits op .u32 x y < 4294967296 := by
  have h := (f (V32 x) (V32 y)).isLt
  rw [hf, IntKind.wrap_u32]
  have e : (((f (V32 x) (V32 y)).toNat : Int) % 4294967296) = ((f (V32 x) (V32 y)).toNat : Int) := by omega
  rw [e]
  refine ⟨?_, by omega, by omega⟩
  show BitVec.ofInt 32 _ = _
  rw [BitVec.ofInt_natCast, BitVec.ofNat_toNat]
  simp
theorem V32_and (x y : Int) : V32 (bits .and .u32 x y) = V32 x &&& V32 y ∧ 0 ≤ bits .and .u32 x y ∧ bits .and .u32 x y < 4294967296 := bits_u32 .and (· &&& ·) (fun _ _ => rfl) x y
theorem V32_or (x y : Int) : V32 (bits .or .u32 x y) = V32 x ||| V32 y ∧ 0 ≤ bits .or .u32 x y ∧ bits .or .u32 x y < 4294967296 := bits_u32 .or (· ||| ·) (fun _ _ => rfl) x y
theorem V32_xor (x y : Int) : V32 (bits .xor .u32 x y) = V32 x ^^^ V32 y ∧ 0 ≤ bits .xor .u32 x y ∧ bits .xor .u32 x y < 4294967296 := bits_u32 .xor (· ^^^ ·) (fun _ _ => rfl) x y
theorem V32_not (x : Int) : V32 (notI .u32 x) = ~~~ V32 x := by
  have h : V32 (notI .u32 x) = V32 4294967295 ^^^ V32 x := (V32_xor 4294967295 x).1
  have e : V32 4294967295 = BitVec.allOnes 32 := by decide
  rw [h, e, BitVec.allOnes_xor]
theorem msb_V32 (x : Int) : (V32 x).msb = decide (2147483648 ≤ x % 4294967296) := by
  rw [BitVec.msb_eq_decide, BitVec.toNat_ofInt]
  congr 1
  apply propext
  have h : ((2 ^ 32 : Nat) : Int) = 4294967296 := rfl
  rw [h]
  constructor <;> intro h' <;> omega
theorem top_V32 {x : Int} (h0 : 0 ≤ x) (h1 : x < 4294967296) : x / 2147483648 = cond (V32 x).msb 1 0 := by
  rw [msb_V32]
  by_cases h : 2147483648 ≤ x % 4294967296
  · rw [decide_eq_true h]; simp only [cond_true]; omega
  · rw [decide_eq_false h]; simp only [cond_false]; omega

/-- math/bits' borrow. -/
theorem borrow32 (x y b d : Int) (hx : 0 ≤ x) (hx' : x < 4294967296) (hy : 0 ≤ y) (hy' : y < 4294967296) (hb : b = 0 ∨ b = 1) (hd : d = (x - y - b) % 4294967296) :
    (bits .or .u32 (bits .and .u32 (notI .u32 x) y) (bits .and .u32 (notI .u32 (bits .xor .u32 x y)) d)) / 2147483648 = -((x - y - b) / 4294967296) := by
  have h1 := V32_or (bits .and .u32 (notI .u32 x) y) (bits .and .u32 (notI .u32 (bits .xor .u32 x y)) d)
  rw [top_V32 h1.2.1 h1.2.2, h1.1, (V32_and _ _).1, (V32_and _ _).1, V32_not, V32_not, (V32_xor _ _).1]
  simp only [BitVec.msb_or, BitVec.msb_and, BitVec.msb_not, BitVec.msb_xor, msb_V32]
  by_cases h2 : 2147483648 ≤ x % 4294967296 <;> by_cases h3 : 2147483648 ≤ y % 4294967296 <;> by_cases h4 : 2147483648 ≤ d % 4294967296 <;> simp [h2, h3, h4] <;> omega
end Go.Proofs
namespace Go.Proofs
open Go Go.Sx
theorem wrap64c {n : Int} (h : I32 n) : IntKind.i64.wrap n = n := by unfold I32 at h; rw [IntKind.wrap_i64]; omega
end Go.Proofs
namespace Go.Proofs
open Go Go.Sx
theorem or64 {h l : Int} (h0 : 0 ≤ h) (h1 : h < 4294967296) (l0 : 0 ≤ l) (l1 : l < 4294967296) : bits .or .u64 (h * 4294967296) l = h * 4294967296 + l := by
  have e : bits .or .u64 (h * 4294967296) l = IntKind.u64.wrap ((BitVec.ofInt 64 (h * 4294967296) ||| BitVec.ofInt 64 l).toNat : Int) := rfl
  rw [e, BitVec.toNat_or, BitVec.toNat_ofInt, BitVec.toNat_ofInt]
  have e1 : (h * 4294967296 % ((2 ^ 64 : Nat) : Int)).toNat = 2 ^ 32 * h.toNat := by
    have : ((2 ^ 64 : Nat) : Int) = 18446744073709551616 := rfl
    rw [this]; omega
  have e2 : (l % ((2 ^ 64 : Nat) : Int)).toNat = l.toNat := by
    have : ((2 ^ 64 : Nat) : Int) = 18446744073709551616 := rfl
    rw [this]; omega
  rw [e1, e2, ← Nat.two_pow_add_eq_or_of_lt (by omega), IntKind.wrap_u64]
  omega
/-- A double word's value, as the program makes it. -/
theorem dv_prog (hi lo : Int) : bits .or .u64 (IntKind.u64.wrap (IntKind.u64.wrap (IntKind.u32.wrap hi) * 2 ^ min 32 IntKind.u64.bits)) (IntKind.u64.wrap (IntKind.u32.wrap lo)) = Dv hi lo := by
  have e1 : IntKind.u64.wrap (IntKind.u64.wrap (IntKind.u32.wrap hi) * 2 ^ min 32 IntKind.u64.bits) = Uw hi * 4294967296 := by
    show IntKind.u64.wrap (IntKind.u64.wrap (IntKind.u32.wrap hi) * 4294967296) = _
    simp only [IntKind.wrap_u64, IntKind.wrap_u32, Uw]; omega
  have e2 : IntKind.u64.wrap (IntKind.u32.wrap lo) = Uw lo := by simp only [IntKind.wrap_u64, IntKind.wrap_u32, Uw]; omega
  rw [e1, e2, or64 (Uw_lo hi) (Uw_hi hi) (Uw_lo lo) (Uw_hi lo)]; rfl

theorem pow_split {m n : Nat} (h : m ≤ n) : (2 : Int) ^ n = 2 ^ m * 2 ^ (n - m) := by rw [← Int.pow_add]; congr 1; omega
theorem shl_min (z : Int) (m : Nat) : z * 2 ^ min m IntKind.u64.bits % 18446744073709551616 = z * 2 ^ m % 18446744073709551616 := by
  have e64 : IntKind.u64.bits = 64 := rfl
  rw [e64]
  rcases Nat.le_total m 64 with h | h
  · rw [Nat.min_eq_left h]
  · rw [Nat.min_eq_right h, pow_split h, show (2 : Int) ^ 64 = 18446744073709551616 by decide, Int.mul_emod_left, ← Int.mul_assoc, Int.mul_comm z, Int.mul_assoc, Int.mul_emod_right]
theorem shr_min {z : Int} (h0 : 0 ≤ z) (h1 : z < 18446744073709551616) (m : Nat) : z.fdiv (2 ^ min m IntKind.u64.bits) = z / 2 ^ m := by
  have e64 : IntKind.u64.bits = 64 := rfl
  have hp := pow2_pos (min m 64)
  rw [e64, Int.fdiv_eq_ediv_of_nonneg _ (by omega)]
  rcases Nat.le_total m 64 with h | h
  · rw [Nat.min_eq_left h]
  · rw [Nat.min_eq_right h]
    have e : (2 : Int) ^ 64 = 18446744073709551616 := by decide
    have : (2 : Int) ^ 64 ≤ 2 ^ m := by rw [pow_split h]; have := pow2_pos (m - 64); have e2 := Int.mul_le_mul_of_nonneg_left (show (1 : Int) ≤ 2 ^ (m - 64) by omega) (show (0 : Int) ≤ 2 ^ 64 by decide); omega
    rw [Int.ediv_eq_zero_of_lt h0 (by omega), Int.ediv_eq_zero_of_lt h0 (by omega)]
theorem shlV_lo (z n : Int) : 0 ≤ shlV z n := by unfold shlV; omega
theorem shlV_hi (z n : Int) : shlV z n < 18446744073709551616 := by unfold shlV; omega
theorem shrV_lo {z : Int} (n : Int) (h0 : 0 ≤ z) : 0 ≤ shrV z n := Int.ediv_nonneg h0 (by have := pow2_pos (Uw n).toNat; omega)
theorem shrV_le {z : Int} (n : Int) (h0 : 0 ≤ z) : shrV z n ≤ z := Int.ediv_le_self _ h0

/-- How many bits a number takes. -/
def bitLen (n : Nat) : Nat := if n = 0 then 0 else Nat.log2 n + 1
theorem bitLen_of {z n : Nat} (h1 : 2 ^ n ≤ z) (h2 : z < 2 ^ (n + 1)) : bitLen z = n + 1 := by
  have hz : z ≠ 0 := by have := Nat.two_pow_pos n; omega
  unfold bitLen
  rw [if_neg hz, (Nat.log2_eq_iff hz).2 ⟨h1, h2⟩]
theorem bitLen_spec {z : Nat} (hz : z ≠ 0) : 2 ^ (bitLen z - 1) ≤ z ∧ z < 2 ^ bitLen z := by
  have := (Nat.log2_eq_iff (k := Nat.log2 z) hz).1 rfl
  unfold bitLen; rw [if_neg hz]; exact this
/-- Ahead of the low n bits. -/
theorem bitLen_div {z n : Nat} (h : z / 2 ^ n ≠ 0) : bitLen z = n + bitLen (z / 2 ^ n) := by
  have hs := bitLen_spec h
  have hp : bitLen (z / 2 ^ n) = bitLen (z / 2 ^ n) - 1 + 1 := by
    have : bitLen (z / 2 ^ n) ≠ 0 := by unfold bitLen; rw [if_neg h]; omega
    omega
  rw [hp] at hs ⊢
  generalize bitLen (z / 2 ^ n) - 1 = k at hs
  simp only [Nat.add_sub_cancel] at hs
  have hpos := Nat.two_pow_pos n
  refine (bitLen_of (n := n + k) ?_ ?_).trans (by omega)
  · rw [Nat.pow_add, Nat.mul_comm]; exact Nat.le_trans (Nat.mul_le_mul_right _ hs.1) (Nat.div_mul_le_self _ _)
  · have := (Nat.div_lt_iff_lt_mul hpos).1 hs.2
    rw [show n + k + 1 = (k + 1) + n by omega, Nat.pow_add]; exact this
theorem lzN_len (z : Int) (h : 0 ≤ z) : lzN z = 64 - (bitLen z.toNat : Int) := by
  unfold lzN bitLen
  by_cases hz : z = 0
  · subst hz; rfl
  · rw [if_neg hz, if_neg (by omega)]; omega
end Go.Proofs

namespace Go.Proofs
open Go Go.Sx
def intsI (l : List Int) : List Value := l.map (Value.int .i64)
@[simp] theorem intsI_length (l : List Int) : (intsI l).length = l.length := by simp [intsI]
theorem intsI_append (a b : List Int) : intsI (a ++ b) = intsI a ++ intsI b := by simp [intsI]
theorem intsI_one (l : List Int) : ∀ u ∈ intsI l, u.oneCell' = true := by
  intro u hu; obtain ⟨n, _, rfl⟩ := List.mem_map.1 hu; rfl
theorem intsI_get {l : List Int} {j : Nat} (h : j < l.length) : (intsI l)[j]? = some (SV.int .i64 (l.getD j 0)).cv := by
  simp [intsI, h, SV.cv, SV.den]
theorem intsI_at {l : List Int} {j : Nat} (h : j < l.length) : (intsI l)[0 + j * (0 + 1)]? = some (SV.int .i64 (l.getD j 0)).cv := by
  rw [Nat.zero_add, Nat.zero_add, Nat.mul_one]; exact intsI_get h
theorem seg_intsI (l : List Int) (a n : Nat) : seg (intsI l) a n = intsI ((l.drop a).take n) := by
  simp [seg, intsI, List.map_drop, List.map_take]
theorem seg_one (xs : List Value) (a n : Nat) (h : ∀ u ∈ xs, u.oneCell' = true) : ∀ u ∈ seg xs a n, u.oneCell' = true :=
  fun u hu => h u (List.mem_of_mem_drop (List.mem_of_mem_take hu))
theorem one_u {v : Value} (h : v.oneCell' = true) : ∀ u ∈ [v], u.oneCell' = true := fun u hu => by
  cases List.mem_singleton.1 hu; exact h
theorem wrap64 {n : Int} (h1 : -9223372036854775808 ≤ n) (h2 : n ≤ 9223372036854775807) : IntKind.i64.wrap n = n := by rw [IntKind.wrap_i64]; omega
theorem wrapSucc {i : Nat} (h : i < 4611686018427387904) : IntKind.i64.wrap ((i : Int) + 1) = ((i + 1 : Nat) : Int) := by rw [wrap64 (by omega) (by omega)]; simp
theorem fvi {k : IntKind} {a b : Int} {ρ : Nat → Nat} (h : a = b) : FV.t (.s (.int k a)) = FV.rn ρ (.t (.s (.int k b))) := by rw [h]; rfl
theorem fvb {a b : Bool} {ρ : Nat → Nat} (h : a = b) : FV.t (.s (.bool a)) = FV.rn ρ (.t (.s (.bool b))) := by rw [h]; rfl
theorem fvsl {i j off n c n' c' : Nat} {ρ : Nat → Nat} (hj : j = ρ i) (h : n = n') (hc : c = c') : FV.t (.s (.sl j off n c)) = FV.rn ρ (.t (.s (.sl i off n' c'))) := by rw [h, hc, hj]; rfl
theorem chs1 {c c' : Ch} (h : c = c') : [c] = [c'] := by rw [h]
end Go.Proofs
namespace Go.Proofs
open Go Go.Sx
theorem i32_fit {x : Int} (h : (Lit.int .i32 x).wf = true) : I32 x := by
  simp [Lit.wf, IntKind.min, IntKind.max, IntKind.signed, IntKind.bits] at h
  exact h
end Go.Proofs

namespace Go.Sx
open Go Go.ChangeShapes Go.WideShapes

/-- The kinds of cells. -/
inductive CK where
  | int (k : IntKind)
  | bool
  | sl

/-- Values of these kinds. -/
noncomputable def CK.all (ks : List CK) (k : List Value → Prop) : Prop :=
  List.rec (motive := fun _ => (List Value → Prop) → Prop) (fun k => k [])
    (fun c _ ih k => match c with
      | .int K => ∃ n : Int, ∃ _ : (Lit.int K n).wf = true, ih fun vs => k (.int K n :: vs)
      | .bool => ∃ b : Bool, ih fun vs => k (.bool b :: vs)
      | .sl => ∃ (a : Option Addr) (len cap : Nat), ∃ _ : len ≤ cap, ∃ _ : cap ≤ maxLen, ∃ _ : (a = none → len = 0 ∧ cap = 0), ∃ _ : (∀ x, a = some x → x.spot = none), ih fun vs => k (.slice a len cap :: vs))
    ks k

def CK.of (P : Program) (t : TypeId) : Option CK := match P.underlying t with
  | some (.int k) => some (.int k)
  | some .bool => some .bool
  | some (.slice _) => some .sl
  | _ => none

def CK.ofs (P : Program) (t : TypeId) : Option (List CK) := (P.cellTypes P.depth t).bind fun ts => ts.mapM (CK.of P)

theorem CK.all_mono {ks : List CK} : ∀ {k k' : List Value → Prop}, (∀ vs, k vs → k' vs) → CK.all ks k → CK.all ks k' := by
  induction ks with
  | nil => exact fun h hk => h _ hk
  | cons c ks ih =>
    intro k k' h hk
    cases c with
    | int K => obtain ⟨n, hn, hk⟩ := hk; exact ⟨n, hn, ih (fun vs => h _) hk⟩
    | bool => obtain ⟨b, hk⟩ := hk; exact ⟨b, ih (fun vs => h _) hk⟩
    | sl => obtain ⟨a, l, c, h1, h2, h3, h4, hk⟩ := hk; exact ⟨a, l, c, h1, h2, h3, h4, ih (fun vs => h _) hk⟩

section
variable {P : Program} {w : World} {r : Reach} {base : Nat}

theorem ck_cell {u : TypeId} {c : CK} {v : Value} (hc : CK.of P u = some c) (h : Cell.okWide P w r base u v) {ks : List CK} {k : List Value → Prop} (hk : CK.all ks fun vs => k (v :: vs)) : CK.all (c :: ks) k := by
  unfold CK.of at hc
  unfold Cell.okWide Cell.ok at h
  split at hc
  · rename_i K hu
    cases hc
    rw [hu] at h
    cases v <;> simp only at h
    obtain ⟨rfl, hh⟩ := h
    exact ⟨_, by simpa [Lit.wf, IntKind.has] using hh, hk⟩
  · rename_i hu
    cases hc
    rw [hu] at h
    cases v <;> simp only at h
    exact ⟨_, hk⟩
  · rename_i e hu
    cases hc
    rw [hu] at h
    cases v with
    | slice a len cap =>
      cases a with
      | none =>
        have h0 : len = 0 ∧ cap = 0 := by
          simp only at h
          split at h <;> simp_all
        obtain ⟨rfl, rfl⟩ := h0
        exact ⟨none, 0, 0, Nat.le_refl _, Nat.zero_le _, fun _ => ⟨rfl, rfl⟩, fun x hx => (by cases hx), hk⟩
      | some a =>
        simp only at h
        refine ⟨some a, len, cap, h.1, ?_, fun hx => (by cases hx), fun x hx => (by cases hx; exact h.2.2.2.1), hk⟩
        have h2 := h.2.1
        have h3 : IntKind.i64.max = (maxLen : Int) := by rfl
        omega
    | _ => simp only at h
  · cases hc

theorem ck_cells {ts : List TypeId} : ∀ {cs : List Value} {ks : List CK} {k : List Value → Prop}, ts.mapM (CK.of P) = some ks → cs.length = ts.length →
    (∀ (i : Nat) (v : Value), cs[i]? = some v → ∃ u, ts[i]? = some u ∧ Cell.okWide P w r base u v) → k cs → CK.all ks k := by
  induction ts with
  | nil =>
    intro cs ks k hm hl _ hk
    simp at hm; subst hm
    obtain rfl : cs = [] := List.length_eq_zero_iff.1 hl
    exact hk
  | cons u ts ih =>
    intro cs ks k hm hl hc hk
    cases cs with
    | nil => simp at hl
    | cons v cs =>
      simp only [List.mapM_cons, Option.bind_eq_bind, Option.bind_eq_some_iff] at hm
      obtain ⟨c, h1, ks', h2, h3⟩ := hm
      cases h3
      obtain ⟨u', hu', hv⟩ := hc 0 v rfl
      simp at hu'; subst hu'
      refine ck_cell h1 hv (ih h2 (by simpa using hl) (fun i x hx => ?_) hk)
      obtain ⟨u, hu, hx⟩ := hc (i + 1) x (by simpa using hx)
      exact ⟨u, by simpa using hu, hx⟩

/-- OPENING a struct. -/
theorem open_flat {t : TypeId} {fs : Array Field} {v : Value} {ks : List CK} {n : Nat} (ht : P.underlying t = some (.struct fs)) (hk : CK.ofs P t = some ks) (hn : P.cellsOf t = n) (hl : ks.length = n)
    (h : Value.okWide P w r base t v) : CK.all ks fun vs => v = .agg vs.toArray := by
  simp only [Value.okWide, ht] at h
  obtain ⟨cs, rfl, hsz, ts, hts, hmul, hc⟩ := h
  clear hmul
  simp only [CK.ofs, hts, Option.bind_some] at hk
  have hlen : ts.length = n := by
    rw [← hl]
    clear hts hc hl
    induction ts generalizing ks with
    | nil => simp at hk; subst hk; rfl
    | cons u ts ih =>
      simp only [List.mapM_cons, Option.bind_eq_bind, Option.bind_eq_some_iff] at hk
      obtain ⟨c, h1, ks', h2, h3⟩ := hk
      cases h3
      simp [ih h2]
  refine CK.all_mono (fun vs h => ?_) (ck_cells (w := w) (r := r) (base := base) (cs := cs.toList) (k := fun vs => vs = cs.toList) hk (by simp [hsz, hn, hlen]) (fun i v hv => ?_) rfl)
  · subst h; rfl
  · have hi : i < ts.length := by
      have := (List.getElem?_eq_some_iff.1 hv).1
      simp [hsz, hn] at this; omega
    obtain ⟨u, hu, hx⟩ := hc i v (by simpa using hv)
    rw [Nat.mod_eq_of_lt hi] at hu
    exact ⟨u, hu, hx⟩

/-- A slice whose contents are not told, as a value of the executor's. -/
theorem sl_den {a : Option Addr} {len cap : Nat} (h0 : a = none → len = 0 ∧ cap = 0) (hs : ∀ x, a = some x → x.spot = none) {β : Nat → Bd} {i : Nat} (hb : β i = rowBd a) : SV.den β (.sl i 0 len cap) = .slice a len cap := by
  cases a with
  | none => obtain ⟨rfl, rfl⟩ := h0 rfl; simp [SV.den, hb, rowBd]
  | some x =>
    have hs := hs x rfl
    obtain ⟨b, o, s⟩ := x
    simp only at hs
    subst hs
    simp [SV.den, hb, rowBd]

end
end Go.Sx

namespace Go.Sx
open Go

section
variable {X : Cx} {fr : Fr} {σ : List Ch}

theorem aliasG {fr' : Fr} {l : List Value} (hw : (∀ e ∈ fr, e.2.1.wf σ.length) → ∀ e ∈ fr', e.2.1.wf (σ.length + 1))
    (hb : ∀ β w, Sat β σ X.φ w → ∃ b : Bd, (∀ (j : Nat) (v : Value), l[j]? = some v → b.nil = false ∧ w.cell? ⟨b.g, b.o + j, none⟩ = some v) ∧
      (∀ g, g ∈ (Ch.view l).rfoot b → ∃ (i : Nat) (d : Ch), σ[i]? = some d ∧ d.foot (β i) = [] ∧ g ∈ d.rfoot (β i)) ∧ ∀ β', (∀ i, i < σ.length → β' i = β i) → β' σ.length = b → ∀ a, Knows β' fr a → Knows β' fr' a) : InTo X fr σ fr' (σ ++ [.view l]) := by
  intro β a w hr
  obtain ⟨b, hs, hf, hk⟩ := hb β w hr.mem
  obtain ⟨β', h1, h2, h3⟩ := hr.mem.push (w' := w) (.view l) b (fun _ _ _ => rfl) (fun g hg => by simp [Ch.foot] at hg)
    (fun g hg => .inr fun j d hd hg' => by
      obtain ⟨i, c, hc, hcf, hgc⟩ := hf g hg
      by_cases hij : j = i
      · subst hij; rw [hc] at hd; cases hd; rw [hcf] at hg'; cases hg'
      · exact hr.mem.disj j i d _ hd hc hij g hg' hgc) trivial (fun β' _ _ => hs)
  refine ⟨β', hr.defers, hr.size, hk β' h1 h2 a (Knows.ext hr.frwf h1 hr.knows), fun e he => by simpa using hw hr.frwf e he, h3, hr.same, fun i hi => (h1 i (Nat.lt_of_lt_of_le hi hr.fits)).trans (hr.agree i hi), by have := hr.fits; simp; omega, ?_⟩
  intro l' d hd g hg
  rcases append_get hd with ⟨hl', hd'⟩ | ⟨rfl, rfl⟩
  · rw [h1 l' hl'] at hg; exact hr.src l' d hd' g hg
  · rw [h2] at hg
    obtain ⟨i, c, hc, _, hgc⟩ := hf g hg
    exact hr.src i c hc g hgc

/-- A slot's value by another. -/
theorem knows_slot {β : Nat → Bd} {a : Act} {d : Nat} {v v' : FV} (hl : look d fr = some (v, none)) (hv : v'.den β = v.den β) (hk : Knows β fr a) : Knows β ((d, v', none) :: fr) a := by
  intro d' u g hl'
  simp only [look] at hl'
  split at hl'
  · rename_i hb
    have := Nat.eq_of_beq_eq_true hb
    subst this
    cases hl'
    have := hk _ _ _ hl
    simp only at this ⊢
    rw [this, hv]
  · exact hk d' u g hl'

/-- A slot's slice of a view: a view of its own. -/
theorem aliasSlot (d i off len cap : Nat) {xs : List Value} (hl : look d fr = some (.t (.s (.sl i off len cap)), none)) (hc : σ[i]? = some (.view xs)) :
    InTo X fr σ ((d, .t (.s (.sl σ.length 0 len cap)), none) :: fr) (σ ++ [.view (seg xs off len)]) := by
  refine aliasG ?_ (fun β w hm => ⟨⟨(β i).g, (β i).o + off, (β i).nil⟩, ?_, ?_, ?_⟩)
  · intro hw e he
    rcases List.mem_cons.1 he with rfl | he
    · simp [FV.wf, TV.wf, SV.wf]
    · exact FV.wf_mono (by omega) (hw e he)
  · intro j v hv
    obtain ⟨h1, h2⟩ := seg_get hv
    have := hm.sat i _ hc _ v h1
    rw [Nat.add_assoc]; exact this
  · intro g hg
    refine ⟨i, _, hc, rfl, ?_⟩
    cases hs : seg xs off len with
    | nil => rw [hs] at hg; simp [Ch.rfoot, Ch.foot] at hg
    | cons v r =>
      rw [hs] at hg
      simp [Ch.rfoot] at hg; subst hg
      obtain ⟨h1, _⟩ := seg_get (xs := xs) (off := off) (n := len) (j := 0) (v := v) (by rw [hs]; rfl)
      cases xs with
      | nil => simp at h1
      | cons x xs => simp [Ch.rfoot]
  · intro β' h1 h2 a hk
    refine knows_slot hl ?_ hk
    have hi : i < σ.length := (List.getElem?_eq_some_iff.1 hc).1
    simp only [FV.den, TV.den, SV.den, h2, h1 i hi, Nat.add_zero]

/-- A slot's raw slice, of which the contents are known. -/
theorem peelSlot (d i : Nat) {ps : List (Option Addr × List Value)} {a : Option Addr} {l : List Value} {v v' : FV} (hl : look d fr = some (v, none)) (hc : σ[i]? = some (.deep ps)) (hp : (a, l) ∈ ps)
    (hv' : v'.wf (σ.length + 1)) (hden : ∀ β, β σ.length = rowBd a → v'.den β = v.den β) :
    InTo X fr σ ((d, v', none) :: fr) (σ ++ [.view l]) := by
  refine aliasG ?_ (fun β w hm => ⟨rowBd a, ?_, ?_, fun β' _ h2 b hk => knows_slot hl (hden β' h2) hk⟩)
  · intro hw e he
    rcases List.mem_cons.1 he with rfl | he
    · exact hv'
    · exact FV.wf_mono (by omega) (hw e he)
  · intro j v hv
    obtain ⟨x, rfl, hsp, hcell⟩ := hm.sat i _ hc (a, l) hp j v hv
    exact ⟨rfl, hcell⟩
  · intro g hg
    refine ⟨i, _, hc, rfl, ?_⟩
    cases l with
    | nil => simp [Ch.rfoot, Ch.foot] at hg
    | cons u r =>
      obtain ⟨x, hx, _, _⟩ := hm.sat i _ hc (a, u :: r) hp 0 u rfl
      simp only at hx
      subst hx
      simp [Ch.rfoot, rowBd] at hg; subst hg
      exact mem_deep.2 ⟨_, hp, x, u, r, rfl, rfl, rfl⟩
end
end Go.Sx

namespace Go.Sx
open Go Go.ChangeShapes Go.WideShapes Go.ChangeAt Go.RowKit Go.Deep

/-- The kinds of fields. -/
inductive FK where
  | int (k : IntKind)
  | bool
def FK.ok : FK → Value → Prop
  | .int k, v => ∃ n, v = .int k n ∧ (Lit.int k n).wf = true
  | .bool, v => ∃ b, v = .bool b
def FK.is (P : Program) (t : TypeId) : FK → Prop
  | .int k => P.underlying t = some (.int k)
  | .bool => P.underlying t = some .bool
/-- The fields are cells in a row, of these kinds. -/
def tabOk (P : Program) : Nat → List Field → List FK → Prop
  | _, [], [] => True
  | i, f :: fs, k :: ks => f.offset = i ∧ P.cellsOf f.type = 1 ∧ k.is P f.type ∧ tabOk P (i + 1) fs ks
  | _, _, _ => False
/-- Values of these kinds. -/
def KOK : List FK → List Value → Prop
  | [], [] => True
  | k :: ks, v :: vs => k.ok v ∧ KOK ks vs
  | _, _ => False
theorem KOK.length : ∀ {ks : List FK} {vs : List Value}, KOK ks vs → vs.length = ks.length
  | [], [], _ => rfl
  | _ :: ks, _ :: vs, h => by simp [KOK.length (ks := ks) (vs := vs) h.2]
  | [], _ :: _, h => h.elim
  | _ :: _, [], h => h.elim

/-- What is known of a slice of rows that came in. -/
structure IsTab (sz : Nat) (w : World) (a : Option Addr) (len cap : Nat) (l : List (List Value)) : Prop where
  hlen : l.length = len
  hcap : len ≤ cap
  hmax : cap ≤ maxLen
  nil : a = none → len = 0 ∧ cap = 0
  spot : ∀ x, a = some x → x.spot = none
  row : ∀ r ∈ l, r.length = sz
  cell : ∀ x, a = some x → ∀ i j (h : i < l.length), j < sz → w.cell? (x.add (i * sz + j)) = (l[i]'h)[j]?

theorem flat_get {sz : Nat} : ∀ {l : List (List Value)} (_ : ∀ r ∈ l, r.length = sz) {p : Nat} {v : Value}, l.flatten[p]? = some v → ∃ i j, ∃ h : i < l.length, j < sz ∧ p = i * sz + j ∧ (l[i]'h)[j]? = some v
  | [], _, p, v, hp => by simp at hp
  | r :: l, hr, p, v, hp => by
    have h0 : r.length = sz := hr r List.mem_cons_self
    rw [List.flatten_cons] at hp
    rcases Nat.lt_or_ge p r.length with h | h
    · rw [List.getElem?_append_left h] at hp
      exact ⟨0, p, by simp, by omega, by simp, by simpa using hp⟩
    · rw [List.getElem?_append_right h] at hp
      obtain ⟨i, j, hi, hj, e, hv⟩ := flat_get (fun q hq => hr q (List.mem_cons_of_mem _ hq)) hp
      refine ⟨i + 1, j, by simp; omega, hj, ?_, by simpa using hv⟩
      rw [Nat.add_mul]; omega

theorem IsTab.sat {sz : Nat} {w : World} {a : Option Addr} {len cap : Nat} {l : List (List Value)} (h : IsTab sz w a len cap l) (β : Nat → Bd) : (Ch.view l.flatten).sat β (rowBd a) w := by
  intro p v hv
  obtain ⟨i, j, hi, hj, rfl, hv'⟩ := flat_get h.row hv
  cases a with
  | none =>
    have := (h.nil rfl).1
    have := h.hlen
    omega
  | some x =>
    have hc := h.cell x rfl i j hi hj
    have hs := h.spot x rfl
    obtain ⟨b, o, s⟩ := x
    simp only at hs
    subst hs
    refine ⟨rfl, ?_⟩
    rw [Go.Sx.addr_add] at hc
    show w.cell? ⟨b, o + (i * sz + j), none⟩ = _
    rw [hc, hv']

theorem IsTab.den {sz : Nat} {w : World} {a : Option Addr} {len cap : Nat} {l : List (List Value)} (h : IsTab sz w a len cap l) {β : Nat → Bd} {i : Nat} (hb : β i = rowBd a) : TV.den β (.s (.sl i 0 l.length cap)) = .slice a len cap := by
  cases a with
  | none => simp [TV.den, SV.den, hb, rowBd, h.hlen]
  | some x =>
    have hs := h.spot x rfl
    obtain ⟨b, o, s⟩ := x
    simp only at hs
    subst hs
    simp [TV.den, SV.den, hb, rowBd, h.hlen]

section
variable {H : Type} {enc : TypeId × Value → H} {P : Program} {w : World} {base : Nat} {spare : Nat → Bool} {held : Bool}
theorem tab_kinds {n : Nat} : ∀ {fs : List Field} {ks : List FK} {cs : List Value} {i : Nat}, tabOk P i fs ks → cs.length = ks.length →
    (∀ (j : Nat) (f : Field), fs[j]? = some f → ∃ y, DataW.trod enc P w base spare held n f.type (cs[j]?.toList) = some y) → KOK ks cs
  | [], [], cs, i, _, hl, _ => by
    cases cs with
    | nil => trivial
    | cons _ _ => simp at hl
  | f :: fs, k :: ks, cs, i, h, hl, hf => by
    cases cs with
    | nil => simp at hl
    | cons v cs =>
      obtain ⟨_, _, hk, ht⟩ := h
      refine ⟨?_, tab_kinds ht (by simpa using hl) (fun j g hg => by
        obtain ⟨y, hy⟩ := hf (j + 1) g (by simpa using hg)
        exact ⟨y, by simpa using hy⟩)⟩
      obtain ⟨y, hy⟩ := hf 0 f rfl
      cases k with
      | int K =>
        obtain ⟨m, he, _, hw⟩ := DataW.trod_int hk hy
        simp at he
        exact ⟨m, he, hw⟩
      | bool =>
        obtain ⟨b, he, _⟩ := DataW.trod_bool hk hy
        simp at he
        exact ⟨b, he⟩
  | [], _ :: _, _, _, h, _, _ => h.elim
  | _ :: _, [], _, _, h, _, _ => h.elim
theorem tab_off : ∀ {fs : List Field} {ks : List FK} {i : Nat}, tabOk P i fs ks → ∀ (j : Nat) (f : Field), fs[j]? = some f → f.offset = i + j ∧ P.cellsOf f.type = 1
  | [], _, _, _, j, f, hf => by simp at hf
  | g :: fs, k :: ks, i, h, j, f, hf => by
    cases j with
    | zero => simp at hf; subst hf; exact ⟨h.1, h.2.1⟩
    | succ j =>
      have := tab_off h.2.2.2 j f (by simpa using hf)
      exact ⟨by omega, this.2⟩
  | _ :: _, [], _, h, _, _, _ => h.elim

/-- OPENING a slice of structs. -/
theorem open_tab {t e : TypeId} {fs : Array Field} {ks : List FK} {r : Reach} {base2 : Nat} {a : Option Addr} {len cap fuel : Nat} {x : DataW H × List MemPlace} (ht : P.underlying t = some (.slice e)) (he : P.underlying e = some (.struct fs))
    (hk : tabOk P 0 fs.toList ks) (hn : P.cellsOf e = ks.length) (hv : Value.okWide P w r base2 t (.slice a len cap))
    (h : DataW.trod enc P w base spare held fuel t (Value.slice a len cap).cells.toList = some x) : ∃ rows, (∀ q ∈ rows, KOK ks q) ∧ IsTab ks.length w a len cap rows := by
  rcases open_slice ht h with ⟨hcs, _⟩ | ⟨y, ln, c, m, n, D, Pl, hcs, _, hl, hm, hmm, _, hx⟩
  · simp [Value.cells] at hcs
    obtain ⟨rfl, rfl, rfl⟩ := hcs
    exact ⟨[], fun q hq => (by cases hq), rfl, Nat.le_refl _, Nat.zero_le _, fun _ => ⟨rfl, rfl⟩, fun x hx => (by cases hx), fun q hq => (by cases hq), fun x hx => (by cases hx)⟩
  · simp [Value.cells] at hcs
    obtain ⟨rfl, rfl, rfl⟩ := hcs
    have hlm : len ≤ m := by rw [hmm]; split <;> omega
    have each : ∀ i, i < len → ∃ cs, w.cells? base (y.add (i * ks.length)) ks.length = some cs ∧ KOK ks cs := by
      intro i hi
      obtain ⟨cs', h1, h2⟩ := hx i (by omega)
      rw [hn] at h1
      refine ⟨cs', h1, ?_⟩
      obtain ⟨_, hlen, _⟩ := World.cells?_some h1
      obtain ⟨xs, k, _, _, _, hxl, hf⟩ := DataW.trod_struct he h2
      refine tab_kinds (enc := enc) (w := w) (base := base) (spare := spare) (held := held) (n := k) hk hlen (fun j f hj => ?_)
      have ho := tab_off hk j f hj
      have hj' : j < xs.length := by
        have := (List.getElem?_eq_some_iff.1 hj).1
        rw [hxl]; simpa using this
      have := hf j f (by simpa using hj)
      rw [List.getElem?_eq_getElem hj'] at this
      refine ⟨xs[j], ?_⟩
      · rw [← this, ho.1, ho.2, Nat.zero_add]
        congr 1
        cases hcj : cs'[j]? with
        | none => rw [List.getElem?_eq_none_iff] at hcj; rw [List.drop_eq_nil_of_le hcj]; rfl
        | some v =>
          have hjl := (List.getElem?_eq_some_iff.1 hcj).1
          rw [List.drop_eq_getElem_cons hjl]
          have := (List.getElem?_eq_some_iff.1 hcj).2
          simp [this]
    obtain ⟨V, hV⟩ := choose_lt each
    refine ⟨(List.range len).map V, fun q hq => ?_, by simp, hl, hm, fun hx => (by cases hx), fun z hz => (by cases hz; exact okWide_spot ht hv), fun q hq => ?_, fun z hz i j hi hj => ?_⟩
    · obtain ⟨i, hi, rfl⟩ := List.mem_map.1 hq
      exact (hV i (by simpa using hi)).2
    · obtain ⟨i, hi, rfl⟩ := List.mem_map.1 hq
      exact (hV i (by simpa using hi)).2.length
    · cases hz
      have hi' : i < len := by simpa using hi
      obtain ⟨_, hlen, hcell⟩ := World.cells?_some (hV i hi').1
      have := hcell j hj
      rw [Go.Deep.add_add] at this
      simp only [List.getElem_map, List.getElem_range]
      rw [this]
end
theorem rows_map {α : Type} {f : α → List Value} {good : α → Prop} : ∀ {rows : List (List Value)}, (∀ q ∈ rows, ∃ e, good e ∧ q = f e) → ∃ l : List α, rows = l.map f ∧ ∀ e ∈ l, good e
  | [], _ => ⟨[], rfl, fun e h => by cases h⟩
  | q :: rows, h => by
    obtain ⟨e, he, rfl⟩ := h q List.mem_cons_self
    obtain ⟨l, rfl, hl⟩ := rows_map (fun p hp => h p (List.mem_cons_of_mem _ hp))
    exact ⟨e :: l, rfl, fun x hx => by
      rcases List.mem_cons.1 hx with rfl | hx
      · exact he
      · exact hl x hx⟩
end Go.Sx

namespace Go.Sx
open Go Go.ChangeShapes Go.WideShapes Go.ChangeAt Go.RowKit Go.Deep

/-- The fields are cells in a row, of these kinds; the last one is a slice of type te. -/
def tabOkS (P : Program) (te : TypeId) : Nat → List Field → List FK → Prop
  | i, [f], [] => f.offset = i ∧ P.cellsOf f.type = 1 ∧ f.type = te
  | i, f :: fs, k :: ks => f.offset = i ∧ P.cellsOf f.type = 1 ∧ k.is P f.type ∧ tabOkS P te (i + 1) fs ks
  | _, _, _ => False

/-- A slice of numbers that lies in memory: what is known of it, and that it may be anywhere if it has no room. -/
structure IsRowN (k : IntKind) (w : World) (a : Option Addr) (len cap : Nat) (l : List Int) : Prop where
  hlen : l.length = len
  hcap : len ≤ cap
  hmax : cap ≤ maxLen
  nil : a = none → len = 0 ∧ cap = 0
  spot : 0 < cap → ∀ x, a = some x → x.spot = none
  cell : ∀ x, a = some x → ∀ i, i < l.length → w.cell? (x.add i) = some (.int k (l.getD i 0))
  fit : ∀ n ∈ l, (Lit.int k n).wf = true

section
variable {H : Type} {enc : TypeId × Value → H} {P : Program} {w : World} {base : Nat} {spare : Nat → Bool} {held : Bool}
theorem cell_spot {a : Addr} {v : Value} (h : w.cell? a = some v) : a.spot = none := by
  unfold World.cell? at h
  split at h
  · split at h
    · cases h
    · rename_i hs; simpa using hs
  · cases h
theorem open_rowN {fuel : Nat} {t e : TypeId} {k : IntKind} {v : Value} {x : DataW H × List MemPlace} (ht : P.underlying t = some (.slice e)) (he : P.underlying e = some (.int k)) (hc : P.cellsOf e = 1)
    (h : DataW.trod enc P w base (fun _ => true) held fuel t [v] = some x) : ∃ a len cap l, v = .slice a len cap ∧ IsRowN k w a len cap l := by
  rcases open_ints ht he hc h with ⟨hcs, _⟩ | ⟨x, ln, c, zs, hcs, _, hl, hm, hz, _, hcell, hwz⟩
  · simp at hcs
    exact ⟨none, 0, 0, [], hcs, rfl, Nat.le_refl _, Nat.zero_le _, fun _ => ⟨rfl, rfl⟩, fun h => absurd h (Nat.lt_irrefl _), fun x hx => (by cases hx), fun n hn => (by cases hn)⟩
  · simp at hcs
    simp at hz
    refine ⟨some x, ln, c, zs.take ln, hcs, by simp; omega, hl, hm, fun hx => (by cases hx), fun h0 y hy => ?_, fun y hy i hi => ?_, fun n hn => hwz n (List.mem_of_mem_take hn)⟩
    · cases hy
      have := cell_spot (hcell 0 (by omega))
      simpa [Addr.add] using this
    · cases hy
      have hi' : i < zs.length := by simp at hi; omega
      rw [hcell i hi']
      simp at hi
      simp [List.getD, show i < ln by omega]
theorem tabS_kinds {n : Nat} {te el : TypeId} {k : IntKind} (ht : P.underlying te = some (.slice el)) (he : P.underlying el = some (.int k)) (hc1 : P.cellsOf el = 1) : ∀ {fs : List Field} {ks : List FK} {cs : List Value} {i : Nat}, tabOkS P te i fs ks → cs.length = ks.length + 1 →
    (∀ (j : Nat) (f : Field), fs[j]? = some f → ∃ y, DataW.trod enc P w base (fun _ => true) held n f.type (cs[j]?.toList) = some y) →
    ∃ vs a len cap l, cs = vs ++ [.slice a len cap] ∧ KOK ks vs ∧ IsRowN k w a len cap l
  | [f], [], cs, i, h, hl, hf => by
    match cs, hl with
    | [v], _ =>
      obtain ⟨y, hy⟩ := hf 0 f rfl
      rw [h.2.2] at hy
      obtain ⟨a, len, cap, l, rfl, hr⟩ := open_rowN ht he hc1 hy
      exact ⟨[], a, len, cap, l, rfl, trivial, hr⟩
  | f :: fs, q :: ks, cs, i, h, hl, hf => by
    cases cs with
    | nil => simp at hl
    | cons v cs =>
      have h' : f.offset = i ∧ P.cellsOf f.type = 1 ∧ q.is P f.type ∧ tabOkS P te (i + 1) fs ks := by cases fs <;> exact h
      obtain ⟨_, _, hk, htt⟩ := h'
      obtain ⟨vs, a, len, cap, l, rfl, h1, h2⟩ := tabS_kinds ht he hc1 htt (by simpa using hl) (fun j g hg => by
        obtain ⟨y, hy⟩ := hf (j + 1) g (by simpa using hg)
        exact ⟨y, by simpa using hy⟩)
      refine ⟨v :: vs, a, len, cap, l, rfl, ⟨?_, h1⟩, h2⟩
      obtain ⟨y, hy⟩ := hf 0 f rfl
      cases q with
      | int K =>
        obtain ⟨m, he', _, hw⟩ := DataW.trod_int hk hy
        simp at he'
        exact ⟨m, he', hw⟩
      | bool =>
        obtain ⟨b, he', _⟩ := DataW.trod_bool hk hy
        simp at he'
        exact ⟨b, he'⟩
  | [], _, _, _, h, _, _ => by cases h
  | _ :: _ :: _, [], _, _, h, _, _ => by cases h
theorem tabS_off {te : TypeId} : ∀ {fs : List Field} {ks : List FK} {i : Nat}, tabOkS P te i fs ks → ∀ (j : Nat) (f : Field), fs[j]? = some f → f.offset = i + j ∧ P.cellsOf f.type = 1
  | [g], [], i, h, j, f, hf => by
    cases j with
    | zero => simp at hf; subst hf; exact ⟨h.1, h.2.1⟩
    | succ j => simp at hf
  | g :: fs, k :: ks, i, h, j, f, hf => by
    have h' : g.offset = i ∧ P.cellsOf g.type = 1 ∧ k.is P g.type ∧ tabOkS P te (i + 1) fs ks := by cases fs <;> exact h
    cases j with
    | zero => simp at hf; subst hf; exact ⟨h'.1, h'.2.1⟩
    | succ j =>
      have := tabS_off h'.2.2.2 j f (by simpa using hf)
      exact ⟨by omega, this.2⟩
  | [], _, _, h, _, _, _ => by cases h
  | _ :: _ :: _, [], _, h, _, _, _ => by cases h

/-- OPENING a slice of such structs. -/
theorem open_tabS {t e te el : TypeId} {k : IntKind} {fs : Array Field} {ks : List FK} {r : Reach} {base2 : Nat} {a : Option Addr} {len cap fuel : Nat} {x : DataW H × List MemPlace} (ht : P.underlying t = some (.slice e)) (he : P.underlying e = some (.struct fs))
    (hte : P.underlying te = some (.slice el)) (hel : P.underlying el = some (.int k)) (hc1 : P.cellsOf el = 1)
    (hk : tabOkS P te 0 fs.toList ks) (hn : P.cellsOf e = ks.length + 1) (hv : Value.okWide P w r base2 t (.slice a len cap))
    (h : DataW.trod enc P w base (fun _ => true) held fuel t (Value.slice a len cap).cells.toList = some x) :
    ∃ rows, (∀ q ∈ rows, ∃ vs b m c l, q = vs ++ [.slice b m c] ∧ KOK ks vs ∧ IsRowN k w b m c l) ∧ IsTab (ks.length + 1) w a len cap rows := by
  rcases open_slice ht h with ⟨hcs, _⟩ | ⟨y, ln, c, m, n, D, Pl, hcs, _, hl, hm, hmm, _, hx⟩
  · simp [Value.cells] at hcs
    obtain ⟨rfl, rfl, rfl⟩ := hcs
    exact ⟨[], fun q hq => (by cases hq), rfl, Nat.le_refl _, Nat.zero_le _, fun _ => ⟨rfl, rfl⟩, fun x hx => (by cases hx), fun q hq => (by cases hq), fun x hx => (by cases hx)⟩
  · simp [Value.cells] at hcs
    obtain ⟨rfl, rfl, rfl⟩ := hcs
    have hlm : len ≤ m := by rw [hmm]; split <;> omega
    have each : ∀ i, i < len → ∃ cs, w.cells? base (y.add (i * (ks.length + 1))) (ks.length + 1) = some cs ∧ ∃ vs b m c l, cs = vs ++ [.slice b m c] ∧ KOK ks vs ∧ IsRowN k w b m c l := by
      intro i hi
      obtain ⟨cs', h1, h2⟩ := hx i (by omega)
      rw [hn] at h1
      refine ⟨cs', h1, ?_⟩
      obtain ⟨_, hlen, _⟩ := World.cells?_some h1
      obtain ⟨xs, q, _, _, _, hxl, hf⟩ := DataW.trod_struct he h2
      refine tabS_kinds (enc := enc) (w := w) (base := base) (held := held) (n := q) hte hel hc1 hk hlen (fun j f hj => ?_)
      have ho := tabS_off hk j f hj
      have hj' : j < xs.length := by
        have := (List.getElem?_eq_some_iff.1 hj).1
        rw [hxl]; simpa using this
      have := hf j f (by simpa using hj)
      rw [List.getElem?_eq_getElem hj'] at this
      refine ⟨xs[j], ?_⟩
      · rw [← this, ho.1, ho.2, Nat.zero_add]
        congr 1
        cases hcj : cs'[j]? with
        | none => rw [List.getElem?_eq_none_iff] at hcj; rw [List.drop_eq_nil_of_le hcj]; rfl
        | some v =>
          have hjl := (List.getElem?_eq_some_iff.1 hcj).1
          rw [List.drop_eq_getElem_cons hjl]
          have := (List.getElem?_eq_some_iff.1 hcj).2
          simp [this]
    obtain ⟨V, hV⟩ := choose_lt each
    refine ⟨(List.range len).map V, fun q hq => ?_, by simp, hl, hm, fun hx => (by cases hx), fun z hz => (by cases hz; exact okWide_spot ht hv), fun q hq => ?_, fun z hz i j hi hj => ?_⟩
    · obtain ⟨i, hi, rfl⟩ := List.mem_map.1 hq
      exact (hV i (by simpa using hi)).2
    · obtain ⟨i, hi, rfl⟩ := List.mem_map.1 hq
      obtain ⟨vs, b, m', c', l, e1, h1, _⟩ := (hV i (by simpa using hi)).2
      rw [e1, List.length_append, h1.length]; rfl
    · cases hz
      have hi' : i < len := by simpa using hi
      obtain ⟨_, hlen, hcell⟩ := World.cells?_some (hV i hi').1
      have := hcell j hj
      rw [Go.Deep.add_add] at this
      simp only [List.getElem_map, List.getElem_range]
      rw [this]
end

/-- Facts about rows elsewhere: a chunk of them. -/
theorem deep_sat {w : World} {β : Nat → Bd} {b : Bd} {ps : List (Option Addr × List Value)} (h : ∀ p ∈ ps, ∀ (j : Nat) (v : Value), p.2[j]? = some v → ∃ x, p.1 = some x ∧ x.spot = none ∧ w.cell? ⟨x.block, x.off + j, none⟩ = some v) : (Ch.deep ps).sat β b w := h
theorem IsRowN.deep {k : IntKind} {w : World} {a : Option Addr} {len cap : Nat} {l : List Int} (h : IsRowN k w a len cap l) : ∀ (j : Nat) (v : Value), (l.map (Value.int k))[j]? = some v → ∃ x, a = some x ∧ x.spot = none ∧ w.cell? ⟨x.block, x.off + j, none⟩ = some v := by
  intro j v hv
  simp only [List.getElem?_map, Option.map_eq_some_iff] at hv
  obtain ⟨n, hn, rfl⟩ := hv
  have hj := (List.getElem?_eq_some_iff.1 hn).1
  cases a with
  | none =>
    have := (h.nil rfl).1
    have := h.hlen
    omega
  | some x =>
    have hc := h.cell x rfl j hj
    have hlen := h.hlen
    have hcap := h.hcap
    have hs := h.spot (by omega) x rfl
    obtain ⟨b, o, s⟩ := x
    simp only at hs
    subst hs
    refine ⟨_, rfl, rfl, ?_⟩
    rw [Go.Sx.addr_add] at hc
    show w.cell? ⟨b, o + j, none⟩ = _
    rw [hc]
    simp [List.getD, hn]
end Go.Sx

namespace Go.Sx
open Go
section
variable {X : Cx} {fr : Fr} {σ : List Ch}
theorem valSlot (d : Nat) {v v' : FV} (hl : look d fr = some (v, none)) (hw : v'.wf σ.length) (hden : ∀ β, v'.den β = v.den β) : InTo X fr σ ((d, v', none) :: fr) σ := by
  intro β a w hr
  refine ⟨β, hr.defers, hr.size, knows_slot hl (hden β) hr.knows, fun e he => ?_, hr.mem, hr.same, hr.agree, hr.fits, hr.src⟩
  rcases List.mem_cons.1 he with rfl | he
  · exact hw
  · exact hr.frwf e he
end
end Go.Sx

namespace Go.Sx
open Go Go.ChangeShapes Go.WideShapes Go.ChangeAt Go.RowKit
theorem open_rowz {H : Type} {enc : TypeId × Value → H} {P : Program} {w : World} {base base' fuel : Nat} {held : Bool} {t e : TypeId} {k : IntKind} {a : Option Addr} {len cap : Nat} {x : DataW H × List MemPlace}
    {ts : List TypeId} {ds : List (DataW H)} {j : Nat} (hsz : (DataW.weightsEach P ts ds).all (· ≤ reachBytes) = true) (htj : ts[j]? = some t) (hdj : ds[j]? = some x.1) (hb : P.bytesOf e = 1)
    (ht : P.underlying t = some (.slice e)) (he : P.underlying e = some (.int k)) (hc : P.cellsOf e = 1) (hv : Value.okWide P w .any base t (.slice a len cap))
    (h : DataW.trod enc P w base' (fun _ => true) held fuel t (Value.slice a len cap).cells.toList = some x) : cap ≤ 140737488355328 ∧ ∃ l, IsRow k w a len cap l := by
  refine ⟨?_, open_row ht he hc hv h⟩
  rcases open_ints ht he hc h with ⟨hcs, _⟩ | ⟨y, ln, c, zs, hcs, _, hl, hm, hz, hx, hcell, hwz⟩
  · simp [Value.cells] at hcs
    obtain ⟨rfl, rfl, rfl⟩ := hcs
    omega
  · simp [Value.cells] at hcs
    obtain ⟨rfl, rfl, rfl⟩ := hcs
    simp at hz
    subst hx
    have := sized_slice hsz htj hdj ht
    simp [lits, hb] at this
    have := reachBytes_lt
    omega
end Go.Sx

namespace Go.Sx
open Go Go.ChangeShapes Go.WideShapes Go.ChangeAt Go.RowKit Go.Deep
/-- A truth as a row of one cell. -/
def boolRow (b : Bool) : List Value := [.bool b]
theorem boolRow_flat (l : List Bool) : (l.map boolRow).flatten = l.map Value.bool := by
  induction l with
  | nil => rfl
  | cons b l ih => rw [List.map_cons, List.flatten_cons, ih]; rfl
section
variable {H : Type} {enc : TypeId × Value → H} {P : Program} {w : World} {base : Nat} {spare : Nat → Bool} {held : Bool}
theorem open_bools {t e : TypeId} {r : Reach} {base2 : Nat} {a : Option Addr} {len cap fuel : Nat} {x : DataW H × List MemPlace} (ht : P.underlying t = some (.slice e)) (he : P.underlying e = some .bool)
    (hn : P.cellsOf e = 1) (hv : Value.okWide P w r base2 t (.slice a len cap))
    (h : DataW.trod enc P w base spare held fuel t (Value.slice a len cap).cells.toList = some x) : ∃ l : List Bool, IsTab 1 w a len cap (l.map boolRow) := by
  rcases open_slice ht h with ⟨hcs, _⟩ | ⟨y, ln, c, m, n, D, Pl, hcs, _, hl, hm, hmm, _, hx⟩
  · simp [Value.cells] at hcs
    obtain ⟨rfl, rfl, rfl⟩ := hcs
    exact ⟨[], rfl, Nat.le_refl _, Nat.zero_le _, fun _ => ⟨rfl, rfl⟩, fun x hx => (by cases hx), fun q hq => (by cases hq), fun x hx => (by cases hx)⟩
  · simp [Value.cells] at hcs
    obtain ⟨rfl, rfl, rfl⟩ := hcs
    have hlm : len ≤ m := by rw [hmm]; split <;> omega
    have each : ∀ i, i < len → ∃ b, w.cells? base (y.add (i * 1)) 1 = some [.bool b] ∧ True := by
      intro i hi
      obtain ⟨cs', h1, h2⟩ := hx i (by omega)
      rw [hn] at h1
      obtain ⟨b, hb, _⟩ := DataW.trod_bool he h2
      exact ⟨b, by rw [h1, hb], trivial⟩
    obtain ⟨V, hV⟩ := choose_lt each
    refine ⟨(List.range len).map V, by simp, hl, hm, fun hx => (by cases hx), fun z hz => (by cases hz; exact okWide_spot ht hv), fun q hq => ?_, fun z hz i j hi hj => ?_⟩
    · obtain ⟨b, _, rfl⟩ := List.mem_map.1 hq
      rfl
    · cases hz
      have hi' : i < len := by simpa using hi
      obtain ⟨_, hlen, hcell⟩ := World.cells?_some (hV i hi').1
      have := hcell j hj
      rw [Go.Deep.add_add] at this
      simp only [List.getElem_map, List.getElem_range]
      rw [this]; rfl
end
end Go.Sx
