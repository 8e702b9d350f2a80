/- An argument that is a slice of structs of numbers and truths, some of them in structs of their own. -/
import Derived.Test.YtcjaggapamngmaaSxC
import Derived.Test.YtcjaggapamngmaaSxD
import Derived.Recover

namespace Go.Sx
open Go Go.ChangeShapes Go.WideShapes Go.ChangeAt Go.RowKit Go.Deep

/-- A field: one cell, or a struct of such. -/
inductive FG where
  | c (k : FK)
  | s (ks : List FK)
def FG.ks : FG → List FK
  | .c k => [k]
  | .s ks => ks
def flatG : List FG → List FK
  | [] => []
  | g :: gs => g.ks ++ flatG gs
def FG.is (P : Program) (t : TypeId) : FG → Prop
  | .c k => P.cellsOf t = 1 ∧ k.is P t
  | .s ks => P.cellsOf t = ks.length ∧ ∃ fs, P.underlying t = some (.struct fs) ∧ tabOk P 0 fs.toList ks
def tabOkG (P : Program) : Nat → List Field → List FG → Prop
  | _, [], [] => True
  | i, f :: fs, g :: gs => f.offset = i ∧ g.is P f.type ∧ tabOkG P (i + g.ks.length) fs gs
  | _, _, _ => False
theorem KOK.append : ∀ {a b : List FK} {x y : List Value}, KOK a x → KOK b y → KOK (a ++ b) (x ++ y)
  | [], _, [], _, _, h => h
  | _ :: _, _, _ :: _, _, h1, h2 => ⟨h1.1, KOK.append h1.2 h2⟩
  | [], _, _ :: _, _, h, _ => h.elim
  | _ :: _, _, [], _, h, _ => h.elim
theorem FG.is_cells {P : Program} {t : TypeId} {g : FG} (h : g.is P t) : P.cellsOf t = g.ks.length := by
  cases g with
  | c k => exact h.1
  | s ks => exact h.1
theorem tabG_lo {P : Program} : ∀ {fs : List Field} {gs : List FG} {i : Nat}, tabOkG P i fs gs → ∀ f ∈ fs, i ≤ f.offset
  | [], _, _, _, f, hf => by simp at hf
  | g :: fs, k :: gs, i, h, f, hf => by
    rcases List.mem_cons.1 hf with rfl | hf
    · exact Nat.le_of_eq h.1.symm
    · have := tabG_lo h.2.2 f hf; omega
  | _ :: _, [], _, h, _, _ => h.elim
section
variable {H : Type} {enc : TypeId × Value → H} {P : Program} {w : World} {base : Nat} {spare : Nat → Bool} {held : Bool}
theorem one_kind {n : Nat} {t : TypeId} {k : FK} {v : Value} {y : DataW H × List MemPlace} (hk : k.is P t) (hy : DataW.trod enc P w base spare held n t [v] = some y) : k.ok v := by
  cases k with
  | int K =>
    obtain ⟨m, he, _, hw⟩ := DataW.trod_int hk hy
    simp at he
    exact ⟨m, he, hw⟩
  | bool =>
    obtain ⟨b, he, _⟩ := DataW.trod_bool hk hy
    simp at he
    exact ⟨b, he⟩
theorem struct_kinds {n : Nat} {t : TypeId} {fs : Array Field} {ks : List FK} {cs : List Value} {y : DataW H × List MemPlace} (he : P.underlying t = some (.struct fs)) (hk : tabOk P 0 fs.toList ks) (hlen : cs.length = ks.length)
    (h2 : DataW.trod enc P w base spare held n t cs = some y) : KOK ks cs := by
  obtain ⟨xs, k, _, _, _, hxl, hf⟩ := DataW.trod_struct he h2
  refine tab_kinds (enc := enc) (w := w) (base := base) (spare := spare) (held := held) (n := k) hk hlen (fun j f hj => ?_)
  have ho := tab_off hk j f hj
  have hj' : j < xs.length := by
    have := (List.getElem?_eq_some_iff.1 hj).1
    rw [hxl]; simpa using this
  have := hf j f (by simpa using hj)
  rw [List.getElem?_eq_getElem hj'] at this
  refine ⟨xs[j], ?_⟩
  rw [← this, ho.1, ho.2, Nat.zero_add]
  congr 1
  cases hcj : cs[j]? with
  | none => rw [List.getElem?_eq_none_iff] at hcj; rw [List.drop_eq_nil_of_le hcj]; rfl
  | some v =>
    have hjl := (List.getElem?_eq_some_iff.1 hcj).1
    rw [List.drop_eq_getElem_cons hjl]
    have := (List.getElem?_eq_some_iff.1 hcj).2
    simp [this]
theorem tabG_kinds {n : Nat} : ∀ {fs : List Field} {gs : List FG} {cs : List Value} {i : Nat}, tabOkG P i fs gs → cs.length = (flatG gs).length →
    (∀ (j : Nat) (f : Field), fs[j]? = some f → ∃ y, DataW.trod enc P w base spare held n f.type ((cs.drop (f.offset - i)).take (P.cellsOf f.type)) = some y) → KOK (flatG gs) cs
  | [], [], cs, i, _, hl, _ => by
    cases cs with
    | nil => trivial
    | cons _ _ => simp [flatG] at hl
  | f :: fs, g :: gs, cs, i, h, hl, hf => by
    obtain ⟨ho, hg, ht⟩ := h
    have hl' : cs.length = g.ks.length + (flatG gs).length := by rw [hl]; exact List.length_append
    obtain ⟨y, hy⟩ := hf 0 f rfl
    rw [ho, Nat.sub_self, List.drop_zero, FG.is_cells hg] at hy
    have h1 : KOK g.ks (cs.take g.ks.length) := by
      cases g with
      | c k =>
        match cs, hl' with
        | v :: cs, _ => exact ⟨one_kind hg.2 hy, trivial⟩
        | [], h => simp [FG.ks] at h; omega
      | s ks =>
        obtain ⟨fs2, hu, hk⟩ := hg.2
        exact struct_kinds hu hk (by show (cs.take ks.length).length = _; rw [List.length_take]; have : cs.length = ks.length + (flatG gs).length := hl'; omega) hy
    have h2 : KOK (flatG gs) (cs.drop g.ks.length) := by
      refine tabG_kinds (n := n) ht (by rw [List.length_drop]; omega) (fun j q hq => ?_)
      obtain ⟨y, hy⟩ := hf (j + 1) q (by simpa using hq)
      refine ⟨y, ?_⟩
      have hlo := tabG_lo ht q (List.mem_of_getElem? hq)
      rw [← hy, List.drop_drop]
      congr 3
      omega
    have h3 := h1.append h2
    rw [List.take_append_drop] at h3
    exact h3
  | [], _ :: _, _, _, h, _, _ => h.elim
  | _ :: _, [], _, _, h, _, _ => h.elim
/-- OPENING a slice of such structs. -/
theorem open_tabG {t e : TypeId} {fs : Array Field} {gs : List FG} {r : Reach} {base2 : Nat} {a : Option Addr} {len cap fuel : Nat} {x : DataW H × List MemPlace} (ht : P.underlying t = some (.slice e)) (he : P.underlying e = some (.struct fs))
    (hk : tabOkG P 0 fs.toList gs) (hn : P.cellsOf e = (flatG gs).length) (hv : Value.okWide P w r base2 t (.slice a len cap))
    (h : DataW.trod enc P w base spare held fuel t (Value.slice a len cap).cells.toList = some x) : ∃ rows, (∀ q ∈ rows, KOK (flatG gs) q) ∧ IsTab (flatG gs).length w a len cap rows := by
  rcases open_slice ht h with ⟨hcs, _⟩ | ⟨y, ln, c, m, n, D, Pl, hcs, _, hl, hm, hmm, _, hx⟩
  · simp [Value.cells] at hcs
    obtain ⟨rfl, rfl, rfl⟩ := hcs
    exact ⟨[], fun q hq => (by cases hq), rfl, Nat.le_refl _, Nat.zero_le _, fun _ => ⟨rfl, rfl⟩, fun x hx => (by cases hx), fun q hq => (by cases hq), fun x hx => (by cases hx)⟩
  · simp [Value.cells] at hcs
    obtain ⟨rfl, rfl, rfl⟩ := hcs
    have hlm : len ≤ m := by rw [hmm]; split <;> omega
    have each : ∀ i, i < len → ∃ cs, w.cells? base (y.add (i * (flatG gs).length)) (flatG gs).length = some cs ∧ KOK (flatG gs) cs := by
      intro i hi
      obtain ⟨cs', h1, h2⟩ := hx i (by omega)
      rw [hn] at h1
      refine ⟨cs', h1, ?_⟩
      obtain ⟨_, hlen, _⟩ := World.cells?_some h1
      obtain ⟨xs, k, _, _, _, hxl, hf⟩ := DataW.trod_struct he h2
      refine tabG_kinds (enc := enc) (w := w) (base := base) (spare := spare) (held := held) (n := k) hk hlen (fun j f hj => ?_)
      have hj' : j < xs.length := by
        have := (List.getElem?_eq_some_iff.1 hj).1
        rw [hxl]; simpa using this
      have := hf j f (by simpa using hj)
      rw [List.getElem?_eq_getElem hj'] at this
      exact ⟨xs[j], by rw [← this]; rfl⟩
    obtain ⟨V, hV⟩ := choose_lt each
    refine ⟨(List.range len).map V, fun q hq => ?_, by simp, hl, hm, fun hx => (by cases hx), fun z hz => (by cases hz; exact okWide_spot ht hv), fun q hq => ?_, fun z hz i j hi hj => ?_⟩
    · obtain ⟨i, hi, rfl⟩ := List.mem_map.1 hq
      exact (hV i (by simpa using hi)).2
    · obtain ⟨i, hi, rfl⟩ := List.mem_map.1 hq
      exact (hV i (by simpa using hi)).2.length
    · cases hz
      have hi' : i < len := by simpa using hi
      obtain ⟨_, hlen, hcell⟩ := World.cells?_some (hV i hi').1
      have := hcell j hj
      rw [Go.Deep.add_add] at this
      simp only [List.getElem_map, List.getElem_range]
      rw [this]
end
end Go.Sx

namespace Go.Sx
open Go

/-- A value that says: the call panics. -/
abbrev pan : FV := .tup [.bnd (.func 0) []]
def isPan : FV → Bool
  | .tup [.bnd (.func 0) []] => true
  | _ => false
theorem isPan_iff {v : FV} : isPan v = true ↔ v = pan := by
  constructor
  · intro h
    unfold isPan at h
    split at h
    · rfl
    · cases h
  · rintro rfl; rfl
theorem isPan_rn {v : FV} {ρ : Nat → Nat} : isPan (v.rn ρ) = isPan v := by
  rw [Bool.eq_iff_iff, isPan_iff, isPan_iff]
  constructor
  · intro h
    cases v with
    | t v => cases h
    | tup l =>
      match l, h with
      | [.bnd (.func 0) []], _ => rfl
      | [.bnd (.func 0) (_ :: _)], h => simp [FV.rn, TV.rn] at h
      | [.bnd (.func (_ + 1)) _], h => simp [FV.rn, TV.rn] at h
      | [.bnd (.method _) _], h => simp [FV.rn, TV.rn] at h
      | [.bnd (.methodOf _ _) _], h => simp [FV.rn, TV.rn] at h
      | [.bnd (.via _ _ _ _) _], h => simp [FV.rn, TV.rn] at h
      | [.bnd (.yield _) _], h => simp [FV.rn, TV.rn] at h
      | [.s _], h => simp [FV.rn, TV.rn] at h
      | [.agg _], h => simp [FV.rn, TV.rn] at h
      | [.clo _ _ _], h => simp [FV.rn, TV.rn] at h
      | _ :: _ :: _, h => simp [FV.rn] at h
      | [], h => simp [FV.rn] at h
  · rintro rfl; rfl
def endOf (ch : List PanicEntry) (v : FV) (β : Nat → Bd) : Ending := match isPan v with
  | true => .panicked ch
  | false => .returned (v.den β)

/-- A contract with two endings. -/
structure TriX (P : Program) (ch : List PanicEntry) (f : FuncId) (args : List TV) (σ0 : List Ch) (k : FV → List Ch → Prop) : Prop where
  h : ∀ (β : Nat → Bd) (φ : Heap) (w : World), Sat β σ0 φ w → Calls P f (args.map (TV.den β)).toArray w fun e w' =>
    ∃ (x : FV × List Ch) (β' : Nat → Bd), k x.1 x.2 ∧ (∀ i, i < σ0.length → β' i = β i) ∧ σ0.length ≤ x.2.length ∧ e = endOf ch x.1 β' ∧ x.1.wf x.2.length ∧ Sat β' x.2 φ w' ∧ Same w w' ∧
      ∀ (l : Nat) (d : Ch), x.2[l]? = some d → ∀ g, g ∈ d.rfoot (β' l) → Feet β σ0 g ∨ w.heap.size ≤ g
abbrev CallX (P : Program) (ch : List PanicEntry) (f : FuncId) (args : List TV) (σ : List Ch) (k : FV → List Ch → Prop) : Prop := TriX P ch f args σ k
def LeavesX (φ : Heap) (w0 : World) (m : Nat) (β0 : Nat → Bd) (F : Nat → Prop) (ch : List PanicEntry) (k : FV → List Ch → Prop) (e : Ending) (w' : World) : Prop :=
  ∃ (x : FV × List Ch) (β' : Nat → Bd), k x.1 x.2 ∧ (∀ i, i < m → β' i = β0 i) ∧ m ≤ x.2.length ∧ e = endOf ch x.1 β' ∧ x.1.wf x.2.length ∧ Sat β' x.2 φ w' ∧ Same w0 w' ∧
    ∀ (l : Nat) (d : Ch), x.2[l]? = some d → ∀ g, g ∈ d.rfoot (β' l) → F g ∨ w0.heap.size ≤ g
def ConX (P : Program) (ch : List PanicEntry) (f : FuncId) (args : List TV) (σ0 : List Ch) (o : Out) : Prop := ∀ K, o.wp K → CallX P ch f args σ0 K
theorem CallX.mono {P : Program} {ch : List PanicEntry} {f : FuncId} {args : List TV} {σ : List Ch} {k k' : FV → List Ch → Prop} (h : CallX P ch f args σ k) (hk : ∀ v τ, k v τ → k' v τ) : CallX P ch f args σ k' :=
  ⟨fun β φ w hs => (h.h β φ w hs).mono fun _ _ ⟨x, β', h1, h2⟩ => ⟨x, β', hk _ _ h1, h2⟩⟩

/-- ENTERING. -/
theorem frameOf_rep {P : Program} {fn : Func} {args : List TV} {σ0 : List Ch} {n : Nat} {fe : Md} {β : Nat → Bd} {φ : Heap} {w : World} (hn : fn.ntmps = n) (hargs : allB (TV.wfB σ0.length) args = true) (hle : Nat.ble args.length n = true) (hs : Sat β σ0 φ w) :
    Rep ⟨P, n, φ, w, σ0.length, β, Feet β σ0, fe, []⟩ β (frameOf 0 args) σ0 { tmps := (args.map (TV.den β)).toArray ++ Array.replicate (fn.ntmps - (args.map (TV.den β)).toArray.size) undef, defers := [] } w := by
  refine ⟨rfl, ?_, ?_, ?_, hs, Same.refl w, fun _ _ => rfl, Nat.le_refl _, fun l d hd g hg => .inl ⟨l, d, hd, hg⟩⟩
  · have := Nat.le_of_ble_eq_true hle
    simp [hn]; omega
  · intro d v g hl
    obtain ⟨rfl, u, hu, _, rfl⟩ := look_frameOf hl
    simp only [Nat.sub_zero] at hu
    have hd := (List.getElem?_eq_some_iff.1 hu).1
    rw [Array.getElem?_append_left (by simpa using hd)]
    simp [hu, FV.den]
  · intro e he
    have : ∀ (l : List TV) (k : Nat), (∀ x ∈ l, x.wf σ0.length) → ∀ e ∈ frameOf k l, e.2.1.wf σ0.length := by
      intro l
      induction l with
      | nil => intro k _ e he; simp [frameOf] at he
      | cons u l ih =>
        intro k hw e he
        simp only [frameOf, List.mem_cons] at he
        rcases he with rfl | he
        · exact hw u (by simp)
        · exact ih (k + 1) (fun x hx => hw x (by simp [hx])) e he
    exact this args 0 (fun x hx => TV.wfB_spec (allB_spec hargs x hx)) e he
theorem enterX {P : Program} {ch : List PanicEntry} {f : FuncId} {fn : Func} {c : Code} {args : List TV} {σ0 : List Ch} {K : FV → List Ch → Prop} {n : Nat}
    (hf : P.funcs[f]? = some fn) (hb : fn.body = some c) (hn : fn.ntmps = n) (hargs : allB (TV.wfB σ0.length) args = true) (hle : Nat.ble args.length n = true)
    (h : ∀ φ w0 β0 F, WpC ⟨P, n, φ, w0, σ0.length, β0, F, none, []⟩ c (bodyPost P fn (LeavesX φ w0 σ0.length β0 F ch K)) (frameOf 0 args) σ0) : CallX P ch f args σ0 K := by
  refine ⟨fun β φ w hs => ?_⟩
  refine calls_of_wp hf hb ?_
  exact (h φ w β (Feet β σ0)).h β _ w (frameOf_rep hn hargs hle hs)
theorem enterMX {P : Program} {ch : List PanicEntry} {f : FuncId} {fn : Func} {c : Code} {args : List TV} {σ0 : List Ch} {K : FV → List Ch → Prop} {n : Nat}
    (hf : P.funcs[f]? = some fn) (hb : fn.body = some c) (hn : fn.ntmps = n) (hargs : allB (TV.wfB σ0.length) args = true) (hle : Nat.ble args.length n = true)
    (h : ∀ φ w0 β0 F, WpC ⟨P, n, φ, w0, σ0.length, β0, F, none, []⟩ c (bodyPostM (fz none) 0 P fn (LeavesX φ w0 σ0.length β0 F ch K)) (frameOf 0 args) σ0) : CallX P ch f args σ0 K := by
  refine ⟨fun β φ w hs => ?_⟩
  refine (callsIn_wide (n := 0)).1 (callsIn_of_wp_marks (F := Fence.wide) (n := 0) hf hb trivial ((wpIn_wide (n := 0)).2 ?_))
  exact (h φ w β (Feet β σ0)).h β _ w (frameOf_rep hn hargs hle hs)

/-- LEAVING by return. -/
theorem fin_kX {X : Cx} {tt : TT} (htt : TTok X.P tt) {ch : List PanicEntry} {fr : Fr} {σ : List Ch} {fn : Func} {K : FV → List Ch → Prop} {rs : List ResultVar} (hrs : fn.results = rs.toArray) {l : List TV}
    (h : resL tt fr σ rs = some l) {v : FV} {σ1 : List Ch} (hK : K v σ1) (sel : List Nat) (hv : packF l = v.rn fun k => sel.getD k 0)
    (hp : pickL σ sel = some (σ1.map (Ch.rn fun k => sel.getD k 0))) (hs : selOk 0 X.m sel = true) (hnd : nodupB sel = true)
    (hw1 : v.wfB σ1.length = true) (hw2 : allB (Ch.wfB σ1.length) σ1 = true) (hpan : isPan v = false) (hds : X.ds = [] := by rfl) :
    WpE X (bodyPost X.P fn (LeavesX X.φ X.w0 X.m X.β0 X.F ch K)) .ret fr σ := by
  refine ⟨fun β a w hr => ?_⟩
  obtain ⟨h1, u, h2, x, β', ⟨q1, q2⟩, q3⟩ := leaves (γ := FV × List Ch) (pc := fun x => isPan x.1 = false ∧ K x.1 x.2) (fv := fun x => x.1) (σ1 := fun x => x.2) htt hrs h (v, σ1) sel ⟨hpan, hK⟩ hv hp hs hnd hw1 hw2 hds β a w hr
  refine ⟨h1, u, h2, x, β', q2, q3.1, q3.2.1, ?_, q3.2.2.2⟩
  rw [q3.2.2.1]
  unfold endOf
  rw [q1]
theorem fin_keX {X : Cx} {tt : TT} (htt : TTok X.P tt) {ch : List PanicEntry} {fr : Fr} {σ : List Ch} {fn : Func} {K : FV → List Ch → Prop} {rs : List ResultVar} (hrs : fn.results = rs.toArray) {l : List TV}
    (h : resL tt fr σ rs = some l) {v : FV} {σ1 : List Ch} (hK : K v σ1) (sel : List Nat) (hv : packF l = v.rn fun k => sel.getD k 0)
    (hp : pickL σ sel = some (σ1.map (Ch.rn fun k => sel.getD k 0))) (hs : selOk 0 X.m sel = true) (hnd : nodupB sel = true)
    (hw1 : v.wfB σ1.length = true) (hw2 : allB (Ch.wfB σ1.length) σ1 = true) (hpan : isPan v = false) (hds : X.ds = [] := by rfl) :
    WpE X (bodyPost X.P fn (LeavesX X.φ X.w0 X.m X.β0 X.F ch K)) .normal fr σ :=
  ⟨(fin_kX htt hrs h hK sel hv hp hs hnd hw1 hw2 hpan hds).h⟩
/-- LEAVING by the panic. -/
theorem fin_pan {X : Cx} {ch : List PanicEntry} {fr : Fr} {σ : List Ch} {fn : Func} {K : FV → List Ch → Prop} {σ1 : List Ch} (hK : K pan σ1) (sel : List Nat)
    (hp : pickL σ sel = some (σ1.map (Ch.rn fun k => sel.getD k 0))) (hs : selOk 0 X.m sel = true) (hnd : nodupB sel = true)
    (hw2 : allB (Ch.wfB σ1.length) σ1 = true) (hds : X.ds = [] := by rfl) :
    WpE X (bodyPost X.P fn (LeavesX X.φ X.w0 X.m X.β0 X.F ch K)) (.panic ch) fr σ := by
  refine ⟨fun β a w hr => ⟨hr.defers.trans hds, (pan, σ1), fun k => β (sel.getD k 0), hK, ?_, ?_, rfl, ?_, ?_, hr.same, ?_⟩⟩
  · intro i hi
    have := selOk_spec hs i hi
    simp only [Nat.zero_add] at this
    have e : sel.getD i 0 = i := by simp [this]
    show β (sel.getD i 0) = X.β0 i
    rw [e]; exact hr.agree i hi
  · have := pickL_len hp
    simp at this
    show X.m ≤ σ1.length
    rw [this]
    rcases Nat.lt_or_ge sel.length X.m with hlt | hge
    · have := selOk_spec hs sel.length hlt
      simp at this
    · exact hge
  · intro x hx
    simp only [List.mem_singleton] at hx
    subst hx
    intro y hy; cases hy
  · exact hr.mem.select (nodupB_spec hnd) hp (fun c hc => Ch.wfB_spec (allB_spec hw2 c hc))
  · intro k d hd g hg
    obtain ⟨i, hi, hs'⟩ := pickL_get hp k (d.rn fun k => sel.getD k 0) (by simp at hd ⊢; simp [hd])
    have e : sel.getD k 0 = i := by simp [hi]
    replace hg : g ∈ d.rfoot (β (sel.getD k 0)) := hg
    rw [e] at hg
    exact hr.src i _ hs' g (by rw [Ch.rfoot_rn]; exact hg)

/-- THE FRAME RULE. -/
theorem CallX.lift {P : Program} {ch : List PanicEntry} {f : FuncId} {cargs args : List TV} {σ0 σ : List Ch} {sel : List Nat} {k : FV → List Ch → Prop} (hnd : sel.Nodup)
    (hp : pickL σ sel = some (σ0.map (Ch.rn (rnk sel σ.length)))) (hw0 : ∀ c ∈ σ0, c.wf σ0.length) (hargs : args = cargs.map (TV.rn (rnk sel σ.length)))
    (h : CallX P ch f cargs σ0 fun v τ => k (v.rn (rnk sel σ.length)) (merged σ sel τ)) : CallX P ch f args σ k := by
  refine ⟨fun β φ w hs => ?_⟩
  subst hargs
  have e2 : (cargs.map (TV.rn (rnk sel σ.length))).map (TV.den β) = cargs.map (TV.den fun k => β (rnk sel σ.length k)) := by
    rw [List.map_map]; exact List.map_congr_left fun v _ => TV.den_rn v
  rw [e2]
  obtain ⟨ψ, hs0, back⟩ := hs.frameOut hnd hp hw0
  refine (h.h _ ψ w hs0).mono ?_
  rintro e w' ⟨⟨v, τ⟩, β', hk, hag, hle, rfl, hfw, hs1, hsame, hsrc⟩
  obtain ⟨β'', b1, b2, hs'⟩ := back β' τ w' hs1 hag hle hsame hsrc
  have hlen := pickL_len hp
  simp only [List.length_map] at hlen
  simp only at hle hfw
  have hml : (merged σ sel τ).length = σ.length + (τ.length - sel.length) := by simp [merged, putBack_length]
  have rlt : ∀ k, k < τ.length → rnk sel σ.length k < (merged σ sel τ).length := by
    intro k hk
    rw [hml]
    cases hk' : sel[k]? with
    | some i => rw [rnk_sel hk']; have := pickL_lt hp i (List.mem_of_getElem? hk'); omega
    | none =>
      have hkl : sel.length ≤ k := by simpa using hk'
      rw [rnk_new hkl]; omega
  refine ⟨(v.rn (rnk sel σ.length), merged σ sel τ), β'', hk, b1, by simp only [hml]; omega, ?_, FV.wf_rn rlt hfw, hs', hsame, ?_⟩
  · unfold endOf
    simp only [isPan_rn]
    split
    · rfl
    · rw [FV.den_rn]
      congr 1
      exact (FV.den_ext (m := τ.length) (fun k hk => b2 k hk) hfw).symm
  · intro j dd hj g hgm
    simp only at hj
    unfold merged at hj
    have hpb := putBack_length sel (τ.map (Ch.rn (rnk sel σ.length))) σ
    have fromτ : ∀ (k : Nat) (c : Ch), τ[k]? = some c → dd = c.rn (rnk sel σ.length) → β'' j = β' k → Feet β σ g ∨ w.heap.size ≤ g := by
      intro k c hk hdc hbj
      subst hdc
      rw [hbj, Ch.rfoot_rn] at hgm
      rcases hsrc k c hk g hgm with ⟨q, c0, hq, hgq⟩ | hge
      · obtain ⟨i', h1, h2⟩ := pickL_get hp q (c0.rn (rnk sel σ.length)) (by simp [hq])
        replace hgq : g ∈ c0.rfoot (β (rnk sel σ.length q)) := hgq
        rw [rnk_sel h1] at hgq
        exact .inl ⟨i', _, h2, by rw [Ch.rfoot_rn]; exact hgq⟩
      · exact .inr hge
    rcases Nat.lt_or_ge j σ.length with hjl | hjl
    · rw [List.getElem?_append_left (by rw [hpb]; exact hjl)] at hj
      by_cases hjs : j ∈ sel
      · obtain ⟨k, hk⟩ := List.getElem?_of_mem hjs
        have hkl := (List.getElem?_eq_some_iff.1 hk).1
        have hkt : k < τ.length := by omega
        rw [putBack_here sel _ σ k j (τ[k].rn (rnk sel σ.length)) hnd hk (by simp [hkt]) hjl] at hj
        have := b2 k hkt
        rw [rnk_sel hk] at this
        exact fromτ k _ (List.getElem?_eq_getElem hkt) (Option.some.inj hj).symm this
      · rw [putBack_other sel _ σ j hjs] at hj
        rw [b1 j hjl] at hgm
        exact .inl ⟨j, dd, hj, hgm⟩
    · rw [List.getElem?_append_right (by rw [hpb]; exact hjl), hpb] at hj
      simp only [List.getElem?_map, List.getElem?_drop, Option.map_eq_some_iff] at hj
      obtain ⟨c, hc', rfl⟩ := hj
      have hkt := (List.getElem?_eq_some_iff.1 hc').1
      have := b2 _ hkt
      rw [rnk_new (by omega), show σ.length + (sel.length + (j - σ.length) - sel.length) = j by omega] at this
      exact fromτ _ c hc' rfl this

/-- A contract with two endings, by patterns on the renumbered arguments and chunks. -/
def conX {P : Program} {ch : List PanicEntry} {f : FuncId} (inst : (cargs : List TV) → (σ0 : List Ch) → Option {o : Out // ConX P ch f cargs σ0 o}) (args : List TV) (σ : List Ch) (k : FV → List Ch → Prop) : Prop :=
  addAll (numsTs args) [] fun acc => discL σ 60 0 acc fun sel =>
    match pickL σ sel with
    | none => False
    | some r => frTs (idx sel) args fun cargs => frCs (idx sel) r fun σ0 =>
      match nodupB sel, allIn sel (numsTs args), allIn sel (numsCs r), allB (Ch.wfB σ0.length) σ0 with
      | true, true, true, true => match inst cargs σ0 with
        | some o => natK σ.length fun n => o.1.wp fun v τ => frF (rnk sel n) v fun v' => frCs (fun i => i) (merged σ sel τ) fun σ' => k v' σ'
        | none => False
      | _, _, _, _ => False
theorem conX_ok {P : Program} {ch : List PanicEntry} {f : FuncId} {inst : (cargs : List TV) → (σ0 : List Ch) → Option {o : Out // ConX P ch f cargs σ0 o}} {args : List TV} {σ : List Ch} {k : FV → List Ch → Prop} (h : conX inst args σ k) : CallX P ch f args σ k := by
  unfold conX at h
  obtain ⟨acc, hacc⟩ := addAll_ex (numsTs args) [] (fun acc => discL σ 60 0 acc fun sel =>
    match pickL σ sel with
    | none => False
    | some r => frTs (idx sel) args fun cargs => frCs (idx sel) r fun σ0 =>
      match nodupB sel, allIn sel (numsTs args), allIn sel (numsCs r), allB (Ch.wfB σ0.length) σ0 with
      | true, true, true, true => match inst cargs σ0 with
        | some o => natK σ.length fun n => o.1.wp fun v τ => frF (rnk sel n) v fun v' => frCs (fun i => i) (merged σ sel τ) fun σ' => k v' σ'
        | none => False
      | _, _, _, _ => False)
  rw [hacc] at h
  obtain ⟨sel, hsel⟩ := discL_ex (σ := σ) 60 0 acc (fun sel =>
    match pickL σ sel with
    | none => False
    | some r => frTs (idx sel) args fun cargs => frCs (idx sel) r fun σ0 =>
      match nodupB sel, allIn sel (numsTs args), allIn sel (numsCs r), allB (Ch.wfB σ0.length) σ0 with
      | true, true, true, true => match inst cargs σ0 with
        | some o => natK σ.length fun n => o.1.wp fun v τ => frF (rnk sel n) v fun v' => frCs (fun i => i) (merged σ sel τ) fun σ' => k v' σ'
        | none => False
      | _, _, _, _ => False)
  rw [hsel] at h
  split at h
  · exact h.elim
  · rename_i r hr
    rw [frTs_eq, frCs_eq] at h
    split at h
    · rename_i h1 h2 h3 h4
      split at h
      · rename_i o ho
        rw [natK_eq] at h
        have hcs := o.2 _ h
        have e1 : (args.map (TV.rn (idx sel))).map (TV.rn (rnk sel σ.length)) = args := TVs.back (allIn_spec h2)
        have e2 : (r.map (Ch.rn (idx sel))).map (Ch.rn (rnk sel σ.length)) = r := Chs.back (allIn_spec h3)
        refine CallX.lift (nodupB_spec h1) (by rw [e2]; exact hr) (fun c hc => Ch.wfB_spec (allB_spec h4 c hc)) e1.symm (hcs.mono fun v τ hk => ?_)
        rw [frF_eq, frCs_eq, Chs.rn_id] at hk
        exact hk
      · exact h.elim
    · exact h.elim

section
variable {X : Cx} {Q : Exit → Act → World → Prop} {fr : Fr} {σ : List Ch}
/-- Behind such a call. -/
def behX (X : Cx) (ch : List PanicEntry) (all rest : List Oper) (Q : Exit → Act → World → Prop) (d : Nat) (fr : Fr) (v : FV) (τ : List Ch) : Prop := match isPan v with
  | true => WpE X Q (.panic ch) fr τ
  | false => WpL X all Q rest ((d, v, none) :: fr) τ
/-- A CALL that may panic. -/
theorem l_callX {ch : List PanicEntry} {all rest : List Oper} {o : Oper} {c : Call} {fx : Operand} {t : TV} {f : FuncId} {d : Nat} {a : List TV} {b : List SV} {l : List TV}
    (inst : (cargs : List TV) → (σ0 : List Ch) → Option {o : Out // ConX X.P ch f cargs σ0 o}) (hcal : Sx.Callee X.P f)
    (ho : o.op = .call c) (hcc : c.callee = .value fx) (hd : o.dst = some d) (hg : guardYes all fr o) (hput : canPut X.n (gsOf all all) d fr = true) (hwhen : whenB (gsOf all all) fr = true)
    (hfx : opd fr none fx = some t) (hclo : asClo t = some (f, a, b)) (hl : opds fr none c.args.toList = some l)
    (h : conX inst (a ++ (l ++ b.map .s)) σ (behX X ch all rest Q d fr)) : WpL X all Q (o :: rest) fr σ := by
  have hc := conX_ok h
  refine ⟨fun β aa w hr => ?_⟩
  have hsp := canPut_spec (whenB_spec hwhen) hput
  have hfx' := opd_sound (g := none) hr.knows trivial hfx
  rw [asClo_den hclo] at hfx'
  have hl' := opds_sound (g := none) hr.knows trivial hl
  refine wpList_enterP (guardYes_wanted hr hg) (call_run hcal ho hcc hfx') ?_
  have hargs : ((a.map (TV.den β)).toArray ++ c.args.map aa.eval ++ (b.map (SV.den β)).toArray) = ((a ++ (l ++ b.map TV.s)).map (TV.den β)).toArray := by
    apply Array.ext'
    have e1 : ∀ (q : List SV), (q.map TV.s).map (TV.den β) = q.map (SV.den β) := fun q => by rw [List.map_map]; exact List.map_congr_left fun _ _ => rfl
    simp only [Array.toList_append, Array.toList_map, hl', List.map_append, e1, List.append_assoc]
  rw [hargs]
  refine (hc.h β X.φ w hr.mem).mono ?_
  rintro e w' ⟨⟨v, τ⟩, β', hk, hag, hle, rfl, hfw, hs1, hsame, hsrc⟩
  simp only at hk hle hfw hs1 hsrc
  have hsrc' : ∀ (l : Nat) (d : Ch), τ[l]? = some d → ∀ g, g ∈ d.rfoot (β' l) → X.F g ∨ X.w0.heap.size ≤ g := by
    intro j dd hj g hgm
    rcases hsrc j dd hj g hgm with ⟨q, c0, hq, hgq⟩ | hge
    · exact hr.src q c0 hq g hgq
    · exact .inr (Nat.le_trans hr.same.size hge)
  have hag' : ∀ i, i < X.m → β' i = X.β0 i := fun i hi => (hag i (Nat.lt_of_lt_of_le hi hr.fits)).trans (hr.agree i hi)
  unfold behX at hk
  unfold endOf
  cases hp : isPan v with
  | true =>
    rw [hp] at hk
    exact hk.h β' aa w' ⟨hr.defers, hr.size, Knows.ext hr.frwf hag hr.knows, fun q hq => FV.wf_mono hle (hr.frwf q hq), hs1, hr.same.trans hsame, hag', Nat.le_trans hr.fits hle, hsrc'⟩
  | false =>
    rw [hp] at hk
    show wpLst _ _ _ _ _ _ _
    rw [hd]
    refine hk.h β' _ w' ⟨hr.defers, by simpa [Act.put] using hr.size, ?_, ?_, hs1, hr.same.trans hsame, hag', Nat.le_trans hr.fits hle, hsrc'⟩
    · exact knows_put (Knows.ext hr.frwf hag hr.knows) (by rw [hr.size]; exact hsp.1) hsp.2 rfl
    · intro q hq
      rcases List.mem_cons.1 hq with rfl | hq
      · exact hfw
      · exact FV.wf_mono hle (hr.frwf q hq)

/-- An interface value made. -/
theorem l_iface {all rest : List Oper} {o : Oper} {x : Operand} {t : TypeId} {tv : TV} {d : Nat} {fs : Array Field} (ho : o.op = .makeInterface t x) (hd : o.dst = some d) (hg : guardYes all fr o)
    (hput : canPut X.n (gsOf all all) d fr = true) (hwhen : whenB (gsOf all all) fr = true) (hx : opd fr none x = some tv) (hw : tv.wfB 0 = true) (hu : X.P.underlying t = some (.struct fs))
    (h : WpL X all Q rest ((d, .t (.s (.raw (.iface t (tv.den fun _ => ⟨0, 0, false⟩)))), none) :: fr) σ) : WpL X all Q (o :: rest) fr σ := by
  refine ⟨fun β a w hr => ?_⟩
  have hsp := canPut_spec (whenB_spec hwhen) hput
  have hxv := opd_sound (g := none) hr.knows trivial hx
  have hden : tv.den β = tv.den fun _ => ⟨0, 0, false⟩ := TV.den_ext (m := 0) (fun i hi => absurd hi (Nat.not_lt_zero _)) (TV.wfB_spec hw)
  have hrun : (execOp a.eval o).run X.P w = .ok (.value (.iface t (tv.den fun _ => ⟨0, 0, false⟩))) w := by
    unfold execOp
    rw [ho]
    simp only [Instr.makeInterface, hxv, hden]
    have hru : (underlying t).run X.P w = .ok (.struct fs) w := by unfold underlying; simp [hu, go_sem]
    simp [hru, go_sem]
  refine wpList_val (guardYes_wanted hr hg) hrun ?_
  rw [hd]
  refine h.h β _ w ⟨hr.defers, by simpa [Act.put] using hr.size, ?_, ?_, hr.mem, hr.same, hr.agree, hr.fits, hr.src⟩
  · exact knows_put hr.knows (by rw [hr.size]; exact hsp.1) hsp.2 rfl
  · intro q hq
    rcases List.mem_cons.1 hq with rfl | hq
    · rfl
    · exact hr.frwf q hq
/-- THE PANIC. -/
theorem l_panic {all rest : List Oper} {o : Oper} {x : Operand} {t : TypeId} {v : Value} (ho : o.op = .panic x) (hg : guardYes all fr o) (hx : opd fr none x = some (.s (.raw (.iface t v))))
    (h : WpE X Q (.panic [{ v := .iface t v, recovered := false }]) fr σ) : WpL X all Q (o :: rest) fr σ := by
  refine ⟨fun β a w hr => ?_⟩
  have hxv := opd_sound (g := none) hr.knows trivial hx
  have hrun : (execOp a.eval o).run X.P w = .halt (.panic (.iface t v)) w := by
    unfold execOp
    rw [ho]
    simp only [hxv]
    rfl
  have hq := h.h β a w hr
  have hw := guardYes_wanted hr hg
  generalize hfe : X.fe = fe
  cases fe with
  | none =>
    show wpList X.P all.toArray Q (o :: rest) a w
    unfold wpList
    rw [if_pos hw]
    refine .inl ?_
    unfold Oper.wp
    rw [hrun]
    exact hq
  | some r =>
    show wpListIn (fz r) 0 X.P all.toArray Q (o :: rest) a w
    unfold wpListIn
    rw [if_pos hw]
    refine ⟨fun f _ => trivial, ?_⟩
    show o.uponIn (fz r) 0 X.P a _ Q ((o.semAt r a.eval).run X.P w)
    rw [Oper.semAt_eq r a.eval o (fun c hc => by rw [ho] at hc; cases hc), hrun]
    exact hq
end

/-- The iterator panics. -/
theorem it_panic {X : Cx} {fr : Fr} {nI m : Nat} {G : Rg} {L : Loop} {fnI : Func} {Q : Exit → Act → World → Prop} {frI : Fr} {σ' : List Ch} {ch : List PanicEntry} (hok : G.ok X fr m)
    (h : WpE (X.af G) Q (.panic ch) fr σ') : WpE (X.it nI m G (.loop L)) (QI X.P fnI G.l Q G.a') (.panic ch) frI σ' := by
  refine ⟨fun β' aI w hr => ?_⟩
  have hmm : m ≤ σ'.length := hr.fits
  have hag : ∀ i, i < m → β' i = G.β i := hr.agree
  have hrep : Rep (X.af G) β' fr σ' G.a' w := by
    refine ⟨?_, hok.size, Knows.ext hok.frwf hag hok.knows, fun e he => FV.wf_mono hmm (hok.frwf e he), hr.mem.unframe, hr.same, fun i hi => (hag i (Nat.lt_of_lt_of_le hi hok.fits)).trans (hok.agree i hi), Nat.le_trans hok.fits hmm, ?_⟩
    · show mkD G.r0 :: G.a.defers = mkD G.r0 :: X.ds
      rw [hok.defers]
    · intro i c hc g hg
      rcases hr.src i c hc g hg with h1 | h1
      · exact .inl ⟨h1.1, h1.2.2⟩
      · exact .inr h1
  exact ⟨hr.defers, h.h β' _ _ hrep⟩
end Go.Sx

namespace Go.Sx
open Go

/-- Where a call was laid by. -/
structure Dv where
  w : World
  β : Nat → Bd
abbrev mkF (f : FuncId) (cap : List SV) (D : Dv) : Deferred := { target := .fn (.func f) (cap.map (SV.den D.β)).toArray, args := #[] }
/-- Behind it. -/
abbrev Cx.df (X : Cx) (m : Nat) (f : FuncId) (cap : List SV) (D : Dv) : Cx := ⟨X.P, X.n, X.φ, D.w, m, D.β, fun g => X.F g ∨ X.w0.heap.size ≤ g, X.fe, mkF f cap D :: X.ds⟩
structure Dv.ok (D : Dv) (X : Cx) (m : Nat) (cap : List SV) : Prop where
  same : Same X.w0 D.w
  agree : ∀ i, i < X.m → D.β i = X.β0 i
  fits : X.m ≤ m
  wf : ∀ x ∈ cap, x.wf m
theorem enterDf {P : Program} {f : FuncId} {fn : Func} {c : Code} {args : List TV} {σ0 : List Ch} {γ : Type} {pc : γ → Prop} {fv : γ → FV} {σ1 : γ → List Ch} {n : Nat}
    (hf : P.funcs[f]? = some fn) (hb : fn.body = some c) (hn : fn.ntmps = n) (hargs : allB (TV.wfB σ0.length) args = true) (hle : Nat.ble args.length n = true)
    (h : ∀ φ w0 β0 F, WpC ⟨P, n, φ, w0, σ0.length, β0, F, none, []⟩ c (bodyPostD P fn (Sx.Leaves φ w0 σ0.length β0 F pc fv σ1)) (frameOf 0 args) σ0) : TriS P f args σ0 pc fv σ1 := by
  refine ⟨fun β φ w hs => ?_⟩
  refine calls_of_wp_defers hf hb ?_
  exact (h φ w β (Feet β σ0)).h β _ w (frameOf_rep hn hargs hle hs)

section
variable {X : Cx} {Q : Exit → Act → World → Prop} {fr : Fr} {σ : List Ch}
theorem l_defer {all rest : List Oper} {o : Oper} {c : Call} {fx : Operand} {f : FuncId} {cap : List SV} (hfe : X.fe = none) (ho : o.op = .defer c) (hcc : c.callee = .value fx) (ha : c.args = #[]) (hd : o.dst = none) (hg : guardYes all fr o)
    (hfx : opd fr none fx = some (.clo (.func f) [] cap)) (hcap : allB (SV.wfB σ.length) cap = true)
    (h : ∀ D : Dv, D.ok X σ.length cap → WpL (X.df σ.length f cap D) all Q rest fr σ) : WpL X all Q (o :: rest) fr σ := by
  refine ⟨fun β a w hr => ?_⟩
  have hxv := opd_sound (g := none) hr.knows trivial hfx
  simp only [TV.den] at hxv
  have hrun : (execOp a.eval o).run X.P w = .ok (.defer (mkF f cap ⟨w, β⟩)) w := by
    unfold execOp
    rw [ho]
    simp only [resolve, hcc, hxv, ha, Deferred.ofValue, Sem.run_bind, Sem.run_pure, Result.andThen_ok]
    have e : (List.map (SV.den β) []).toArray ++ Array.map a.eval #[] = #[] := by simp
    rw [e]
  have hw := guardYes_wanted hr hg
  rw [hfe]
  show wpList X.P all.toArray Q (o :: rest) a w
  unfold wpList
  rw [if_pos hw]
  refine .inl ?_
  unfold Oper.wp
  rw [hrun]
  rw [Oper.upon_defer, hd]
  have hD : Dv.ok ⟨w, β⟩ X σ.length cap := ⟨hr.same, hr.agree, hr.fits, fun x hx => SV.wfB_spec (allB_spec hcap x hx)⟩
  have hk := (h ⟨w, β⟩ hD).h β { a with defers := mkF f cap ⟨w, β⟩ :: a.defers } w ⟨by show mkF f cap ⟨w, β⟩ :: a.defers = mkF f cap ⟨w, β⟩ :: X.ds; rw [hr.defers], hr.size, hr.knows, hr.frwf, hr.mem, Same.refl w, fun _ _ => rfl, Nat.le_refl _, fun i c hc g hg => .inl (hr.src i c hc g hg)⟩
  have hk' : wpLst X.fe X.P all.toArray Q rest { a with defers := mkF f cap ⟨w, β⟩ :: a.defers } w := hk
  rw [hfe] at hk'
  exact hk'
end

/-- Back from behind it: the frame's own context. -/
theorem df_back {X : Cx} {m : Nat} {f : FuncId} {cap : List SV} {D : Dv} {fr : Fr} {σ : List Ch} {β : Nat → Bd} {a : Act} {w : World} (hok : D.ok X m cap) (hds : X.ds = []) (hr : Rep (X.df m f cap D) β fr σ a w) : Rep X β fr σ { a with defers := [] } w := by
  refine ⟨hds.symm, hr.size, hr.knows, hr.frwf, hr.mem, hok.same.trans hr.same, fun i hi => (hr.agree i (Nat.lt_of_lt_of_le hi hok.fits)).trans (hok.agree i hi), Nat.le_trans hok.fits hr.fits, ?_⟩
  intro i c hc g hg
  rcases hr.src i c hc g hg with h | h
  · exact h
  · exact .inr (Nat.le_trans hok.same.size h)
theorem cap_same {cap : List SV} {m : Nat} {β β' : Nat → Bd} (hw : ∀ x ∈ cap, x.wf m) (hb : ∀ i, i < m → β i = β' i) : cap.map (SV.den β') = cap.map (SV.den β) := (SV.map_ext hb hw).symm

/-- A DEFERRED call's contract: entered while the frame below is in mode u, it leaves it in mode u'. -/
structure TriD (P : Program) (f : FuncId) (args : List TV) (u u' : FrameMode) (σ0 : List Ch) (k : List Ch → Prop) : Prop where
  h : ∀ (β : Nat → Bd) (φ : Heap) (w : World), Sat β σ0 φ w → CallsD P f (args.map (TV.den β)).toArray u w fun e v w' =>
    v = u' ∧ (∃ x, e = .returned x) ∧ ∃ (τ : List Ch) (β' : Nat → Bd), k τ ∧ (∀ i, i < σ0.length → β' i = β i) ∧ σ0.length ≤ τ.length ∧ Sat β' τ φ w' ∧ Same w w' ∧
      ∀ (l : Nat) (d : Ch), τ[l]? = some d → ∀ g, g ∈ d.rfoot (β' l) → Feet β σ0 g ∨ w.heap.size ≤ g
theorem TriD.lift {P : Program} {f : FuncId} {cargs args : List TV} {u u' : FrameMode} {σ0 σ : List Ch} {sel : List Nat} {k : List Ch → Prop} (hnd : sel.Nodup)
    (hp : pickL σ sel = some (σ0.map (Ch.rn (rnk sel σ.length)))) (hw0 : ∀ c ∈ σ0, c.wf σ0.length) (hargs : args = cargs.map (TV.rn (rnk sel σ.length)))
    (h : TriD P f cargs u u' σ0 fun τ => k (merged σ sel τ)) : TriD P f args u u' σ k := by
  refine ⟨fun β φ w hs => ?_⟩
  subst hargs
  have e2 : (cargs.map (TV.rn (rnk sel σ.length))).map (TV.den β) = cargs.map (TV.den fun k => β (rnk sel σ.length k)) := by
    rw [List.map_map]; exact List.map_congr_left fun v _ => TV.den_rn v
  rw [e2]
  obtain ⟨ψ, hs0, back⟩ := hs.frameOut hnd hp hw0
  refine (h.h _ ψ w hs0).mono ?_
  rintro e v w' ⟨hv, he, τ, β', hk, hag, hle, hs1, hsame, hsrc⟩
  obtain ⟨β'', b1, b2, hs'⟩ := back β' τ w' hs1 hag hle hsame hsrc
  have hlen := pickL_len hp
  simp only [List.length_map] at hlen
  have hml : (merged σ sel τ).length = σ.length + (τ.length - sel.length) := by simp [merged, putBack_length]
  refine ⟨hv, he, merged σ sel τ, β'', hk, b1, by rw [hml]; omega, hs', hsame, ?_⟩
  intro j dd hj g hgm
  unfold merged at hj
  have hpb := putBack_length sel (τ.map (Ch.rn (rnk sel σ.length))) σ
  have fromτ : ∀ (k : Nat) (c : Ch), τ[k]? = some c → dd = c.rn (rnk sel σ.length) → β'' j = β' k → Feet β σ g ∨ w.heap.size ≤ g := by
    intro k c hk hdc hbj
    subst hdc
    rw [hbj, Ch.rfoot_rn] at hgm
    rcases hsrc k c hk g hgm with ⟨q, c0, hq, hgq⟩ | hge
    · obtain ⟨i', h1, h2⟩ := pickL_get hp q (c0.rn (rnk sel σ.length)) (by simp [hq])
      replace hgq : g ∈ c0.rfoot (β (rnk sel σ.length q)) := hgq
      rw [rnk_sel h1] at hgq
      exact .inl ⟨i', _, h2, by rw [Ch.rfoot_rn]; exact hgq⟩
    · exact .inr hge
  rcases Nat.lt_or_ge j σ.length with hjl | hjl
  · rw [List.getElem?_append_left (by rw [hpb]; exact hjl)] at hj
    by_cases hjs : j ∈ sel
    · obtain ⟨k, hk⟩ := List.getElem?_of_mem hjs
      have hkl := (List.getElem?_eq_some_iff.1 hk).1
      have hkt : k < τ.length := by omega
      rw [putBack_here sel _ σ k j (τ[k].rn (rnk sel σ.length)) hnd hk (by simp [hkt]) hjl] at hj
      have := b2 k hkt
      rw [rnk_sel hk] at this
      exact fromτ k _ (List.getElem?_eq_getElem hkt) (Option.some.inj hj).symm this
    · rw [putBack_other sel _ σ j hjs] at hj
      rw [b1 j hjl] at hgm
      exact .inl ⟨j, dd, hj, hgm⟩
  · rw [List.getElem?_append_right (by rw [hpb]; exact hjl), hpb] at hj
    simp only [List.getElem?_map, List.getElem?_drop, Option.map_eq_some_iff] at hj
    obtain ⟨c, hc', rfl⟩ := hj
    have hkt := (List.getElem?_eq_some_iff.1 hc').1
    have := b2 _ hkt
    rw [rnk_new (by omega), show σ.length + (sel.length + (j - σ.length) - sel.length) = j by omega] at this
    exact fromτ _ c hc' rfl this

section
variable {X : Cx} {fr : Fr} {σ : List Ch} {m : Nat} {f : FuncId} {cap : List SV} {D : Dv} {fn : Func} {γ : Type} {pc : γ → Prop} {fv : γ → FV} {σ1 : γ → List Ch}
theorem invokeF {P : Program} {w : World} (hcal : Sx.Callee P f) : (invoke (.fn (.func f) (cap.map (SV.den D.β)).toArray) #[]).run P w = .ok (.enter f (cap.map (SV.den D.β)).toArray) w := by
  simp only [invoke, callFunc_run hcal]
  simp
/-- THE DOOR, in either mode: the one deferred call is made, then the results are read. -/
theorem door {u : FrameMode} {e : Exit} (u' : FrameMode) (hok : D.ok X m cap) (hds : X.ds = []) (hcal : Sx.Callee X.P f) (he : (u = .returning ∧ (e = .ret ∨ e = .normal)) ∨ ∃ ch, u = .panicking ch ∧ e = .panic ch) (hu : settle u' = .returning) {k : List Ch → Prop}
    (hd : TriD X.P f (cap.map .s) u u' σ k) (h : ∀ τ, k τ → WpE X (bodyPost X.P fn (Sx.Leaves X.φ X.w0 X.m X.β0 X.F pc fv σ1)) .ret fr τ) :
    WpE (X.df m f cap D) (bodyPostD X.P fn (Sx.Leaves X.φ X.w0 X.m X.β0 X.F pc fv σ1)) e fr σ := by
  refine ⟨fun β a w hr => ?_⟩
  have hdef : a.defers = [mkF f cap D] := by rw [hr.defers]; show mkF f cap D :: X.ds = _; rw [hds]
  have hb := df_back hok hds hr
  have hcs : (cap.map (SV.den D.β)).toArray = ((cap.map TV.s).map (TV.den β)).toArray := by
    have e1 : (cap.map TV.s).map (TV.den β) = cap.map (SV.den β) := by rw [List.map_map]; exact List.map_congr_left fun _ _ => rfl
    rw [e1, ← cap_same hok.wf hr.agree]
  have hne : u ≠ .run := by rcases he with ⟨rfl, _⟩ | ⟨_, rfl, _⟩ <;> simp
  have key : Go.Leaves X.P fn a.tmps (Sx.Leaves X.φ X.w0 X.m X.β0 X.F pc fv σ1) [mkF f cap D] u w := by
    refine leaves_cons hne (invokeF hcal) ?_
    rw [hcs]
    refine (hd.h β X.φ w hr.mem).mono ?_
    rintro en um w' ⟨hum, ⟨x, rfl⟩, τ, β', hk, hag, hle, hs1, hsame, hsrc⟩
    have hrep : Rep X β' fr τ { a with defers := [] } w' := by
      refine ⟨hds.symm, hb.size, Knows.ext hb.frwf hag hb.knows, fun q hq => FV.wf_mono hle (hb.frwf q hq), hs1, hb.same.trans hsame, fun i hi => (hag i (Nat.lt_of_lt_of_le hi hb.fits)).trans (hb.agree i hi), Nat.le_trans hb.fits hle, ?_⟩
      intro j dd hj g hgm
      rcases hsrc j dd hj g hgm with ⟨q, c0, hq, hgq⟩ | hge
      · exact hb.src q c0 hq g hgq
      · exact .inr (Nat.le_trans hb.same.size hge)
    obtain ⟨_, v, h1, h2⟩ := ((h τ hk).h β' _ w' hrep : _ ∧ _)
    show Go.Leaves X.P fn a.tmps _ [] (settle um) w'
    rw [hum, hu]
    exact ⟨v, h1, h2⟩
  rcases he with ⟨rfl, rfl | rfl⟩ | ⟨ch, rfl, rfl⟩
  · show Go.Leaves X.P fn a.tmps _ a.defers .returning w
    rw [hdef]; exact key
  · show Go.Leaves X.P fn a.tmps _ a.defers .returning w
    rw [hdef]; exact key
  · show Go.Leaves X.P fn a.tmps _ a.defers (.panicking ch) w
    rw [hdef]; exact key
end
end Go.Sx
