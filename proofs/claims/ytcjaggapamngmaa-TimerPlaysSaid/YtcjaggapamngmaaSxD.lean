/- Ranges over a function: the loop's record in the frame, the iterator's walk, a call of yield, the round's body, the way back. -/
import Derived.Test.YtcjaggapamngmaaSxC
import Derived.RangeFuncRecord
import Derived.Scope
import Derived.Test.YtcjaggapamngmaaSxB
import Derived.OrdersHeld

namespace Go.Sx
open Go

/-! ### The record turns -/
theorem putObj_same (w : World) (l : Nat) (o : Obj) : Same w (w.putObj l o) := ⟨rfl, rfl, rfl, by simp⟩
theorem Sat.reloop {β : Nat → Bd} {σ : List Ch} {φ : Heap} {w : World} {l : Nat} {o : Obj} (h : Sat β σ ((l, o) :: φ) w) (o' : Obj) (hr : ∀ (i : Nat) (c : Ch), σ[i]? = some c → ∀ g, g ∈ c.rfoot (β i) → g ≠ l)
    (hn : l ∉ φ.map (·.1)) : Sat β σ ((l, o') :: φ) (w.putObj l o') := by
  have hlt : l < w.heap.size := (Array.getElem?_eq_some_iff.1 (h.frame (l, o) (by simp))).1
  refine ⟨h.disj, h.off, fun i c hc => Ch.sat_keep (h.sat i c hc) fun g hg => World.putObj_heap_other (hr i c hc g hg), fun p hp => ?_, h.wf⟩
  rcases List.mem_cons.1 hp with rfl | hp
  · exact World.putObj_heap_same hlt
  · rw [World.putObj_heap_other (fun e => hn (List.mem_map.2 ⟨p, hp, e⟩))]
    exact h.frame p (List.mem_cons_of_mem _ hp)
theorem Sat.unframe {β : Nat → Bd} {σ : List Ch} {φ : Heap} {w : World} {p : Nat × Obj} (h : Sat β σ (p :: φ) w) : Sat β σ φ w :=
  ⟨h.disj, fun i c hc g hg hm => h.off i c hc g hg (by simp only [List.map_cons, List.mem_cons]; exact .inr hm), h.sat, fun q hq => h.frame q (List.mem_cons_of_mem _ hq), h.wf⟩
theorem Sat.newFrame {β : Nat → Bd} {σ : List Ch} {φ : Heap} {w : World} (h : Sat β σ φ w) (o : Obj) : Sat β σ ((w.heap.size, o) :: φ) (w.alloc o) := by
  have hk : ∀ g, g < w.heap.size → (w.alloc o).heap[g]? = w.heap[g]? := fun g hg => RowKit.Below.heap_alloc w o g hg
  have h' := h.grow (w' := w.alloc o) hk
  refine ⟨h'.disj, fun i c hc g hg => ?_, h'.sat, fun p hp => ?_, h'.wf⟩
  · have := h.chunk_lt hc hg
    simp only [List.map_cons, List.mem_cons, not_or]
    exact ⟨by omega, h.off i c hc g hg⟩
  · rcases List.mem_cons.1 hp with rfl | hp
    · exact World.alloc_heap_new w o
    · exact h'.frame p hp

/-! ### Entering the statement -/
/-- Where a range over a function stands: its record, its block, the activation, what the chunk numbers stand for, the world behind entering. -/
structure Rg where
  l : Nat
  r0 : Nat
  fnA : FuncId
  a : Act
  β : Nat → Bd
  w2 : World
abbrev mkD (r : Nat) : Deferred := { target := .collected r, args := #[] }
abbrev Rg.L (G : Rg) (ps : Array Tmp) (assign body : Code) (s : LoopState) (p : Option Code) : Loop := { state := s, pending := p, fn := G.fnA, tmps := G.a.tmps, params := ps, assign, body, defers := G.r0 }
abbrev Rg.a' (G : Rg) : Act := { G.a with defers := mkD G.r0 :: G.a.defers }
structure Rg.ok (G : Rg) (X : Cx) (fr : Fr) (m : Nat) : Prop where
  defers : G.a.defers = X.ds
  size : G.a.tmps.size = X.n
  knows : Knows G.β fr G.a
  frwf : ∀ e ∈ fr, e.2.1.wf m
  same : Same X.w0 G.w2
  agree : ∀ i, i < X.m → G.β i = X.β0 i
  fits : X.m ≤ m
  nl : G.l ∉ X.φ.map (·.1)
  nr : G.r0 ∉ X.φ.map (·.1)
  ne : G.l ≠ G.r0
  lt : G.l < G.w2.heap.size
  lt0 : G.r0 < G.w2.heap.size
/-- The iterator's context. -/
abbrev Cx.it (X : Cx) (n m : Nat) (G : Rg) (o : Obj) : Cx :=
  ⟨X.P, n, (G.l, o) :: (G.r0, .deferred (some [])) :: X.φ, G.w2, m, G.β, fun g => (X.F g ∨ X.w0.heap.size ≤ g) ∧ g ≠ G.l ∧ g ≠ G.r0, some none, []⟩
/-- Behind the statement. -/
abbrev Cx.af (X : Cx) (G : Rg) : Cx := ⟨X.P, X.n, (G.r0, .deferred (some [])) :: X.φ, G.w2, X.m, X.β0, fun g => (X.F g ∨ X.w0.heap.size ≤ g) ∧ g ≠ G.r0, X.fe, mkD G.r0 :: X.ds⟩
abbrev QI (P : Program) (fnI : Func) (l : Nat) (Q : Exit → Act → World → Prop) (a' : Act) : Exit → Act → World → Prop := bodyPost P fnI (rangePost (fz none) 0 P l Q a')

theorem rangeCall_run {P : Program} {a : Act} {g : Operand} {l : Nat} {w : World} {f : FuncId} {x y : Array Value} (h : a.eval g = .func (.func f) x y) (hcal : Sx.Callee P f) :
    ∃ d, (resolve a.eval (rangeCall g l) 0).run P w = .ok d w ∧ (invoke d.target d.args).run P w = .ok (.enter f (x ++ #[.func (.yield l) #[] #[]] ++ y)) w := by
  refine ⟨{ target := .fn (.func f) y, args := x ++ #[.func (.yield l) #[] #[]] }, ?_, ?_⟩
  · simp only [resolve, h, Deferred.ofValue]
    simp only [List.map_toArray, List.map_cons, List.map_nil, Act.eval]
    rfl
  · simp only [invoke, callFunc_run hcal]

theorem c_range (m : Nat) {X : Cx} {fr : Fr} {σ : List Ch} {g : Operand} {ps : Array Tmp} {assign body : Code} {Q : Exit → Act → World → Prop} {t : TV} {f : FuncId} {fnI : Func} {cI : Code} {nI : Nat} {x : List TV} {y : List SV}
    (hfe : X.fe = none) (hm1 : Nat.ble X.m m = true) (hm2 : Nat.ble m σ.length = true) (hfw : frWf m fr = true) (hg : opd fr none g = some t) (hclo : asClo t = some (f, x, y)) (hcal : Sx.Callee X.P f) (hf : X.P.funcs[f]? = some fnI) (hb : fnI.body = some cI) (hn : fnI.ntmps = nI)
    (hx : allB (TV.wfB σ.length) x = true) (hy : allB (SV.wfB σ.length) y = true) (hle : Nat.ble (x.length + 1 + y.length) nI = true)
    (h : ∀ G : Rg, G.ok X fr m → WpC (X.it nI m G (.loop (G.L ps assign body .ready none))) cI (QI X.P fnI G.l Q G.a') (frameOf 0 (x ++ .s (.raw (.func (.yield G.l) #[] #[])) :: y.map .s)) σ) :
    WpC X (.rangeFunc g ps assign body) Q fr σ := by
  refine ⟨fun β a w hr => ?_⟩
  rw [hfe]
  refine (wpIn_wide (n := 0)).1 (wpIn_rangeFunc fun fn _ => ?_)
  have hgv := opd_sound (g := none) hr.knows trivial hg
  rw [asClo_den hclo] at hgv
  obtain ⟨d, hd1, hd2⟩ := rangeCall_run (P := X.P) (l := w.heap.size + 1)
    (w := (w.alloc (.deferred (some []))).alloc (.loop { state := .ready, pending := none, fn, tmps := a.tmps, params := ps, assign, body, defers := w.heap.size })) hgv hcal
  refine ⟨_, _, _, d, _, f, _, _, run_enterLoop_outer fn a.tmps ps assign body, hd1, fun _ _ => trivial, hd2, fun h => (by cases h), ?_⟩
  let G : Rg := ⟨w.heap.size + 1, w.heap.size, fn, a, β, (w.alloc (.deferred (some []))).alloc (.loop { state := .ready, pending := none, fn, tmps := a.tmps, params := ps, assign, body, defers := w.heap.size })⟩
  have hfl : ∀ k, k ∈ X.φ.map (·.1) → k < w.heap.size := fun k hk => hr.mem.frame_lt hk
  have hG : G.ok X fr m := ⟨hr.defers, hr.size, hr.knows, frWf_spec hfw, hr.same.trans ((Same.alloc w _).trans (Same.alloc _ _)), hr.agree, Nat.le_of_ble_eq_true hm1, fun hk => absurd (hfl _ hk) (by show ¬ (w.heap.size + 1 < _); omega), fun hk => absurd (hfl _ hk) (Nat.lt_irrefl _), by show w.heap.size + 1 ≠ w.heap.size; omega, by show w.heap.size + 1 < ((w.alloc _).alloc _).heap.size; rw [World.size_alloc, World.size_alloc]; omega, by show w.heap.size < ((w.alloc _).alloc _).heap.size; rw [World.size_alloc, World.size_alloc]; omega⟩
  have hW := h G hG
  have hs2 := (hr.mem.newFrame (.deferred (some []))).newFrame (.loop { state := .ready, pending := none, fn, tmps := a.tmps, params := ps, assign, body, defers := w.heap.size })
  rw [World.size_alloc] at hs2
  refine callsIn_of_wp (F := Fence.wide) (n := 0 - 1) hf hb trivial ?_
  have hargs : (x.map (TV.den β)).toArray ++ #[Value.func (.yield (w.heap.size + 1)) #[] #[]] ++ (y.map (SV.den β)).toArray = ((x ++ TV.s (.raw (.func (.yield G.l) #[] #[])) :: y.map .s).map (TV.den β)).toArray := by
    apply Array.ext'
    have e1 : ∀ (q : List SV), (q.map TV.s).map (TV.den β) = q.map (SV.den β) := fun q => by rw [List.map_map]; exact List.map_congr_left fun _ _ => rfl
    simp [e1]
    rfl
  rw [hargs]
  refine hW.h β _ _ ⟨rfl, ?_, ?_, ?_, ?_, Same.refl _, fun _ _ => rfl, Nat.le_of_ble_eq_true hm2, ?_⟩
  · have := Nat.le_of_ble_eq_true hle
    simp [hn]; omega
  · intro d v gd hl
    obtain ⟨rfl, u, hu, _, rfl⟩ := look_frameOf hl
    simp only [Nat.sub_zero] at hu
    have hd := (List.getElem?_eq_some_iff.1 hu).1
    rw [Array.getElem?_append_left (by simpa using hd)]
    simp only [FV.den, List.getElem?_toArray, List.getElem?_map, hu, Option.map_some]
  · have : ∀ (l : List TV) (k : Nat), (∀ x ∈ l, x.wf σ.length) → ∀ e ∈ frameOf k l, e.2.1.wf σ.length := by
      intro l
      induction l with
      | nil => intro k _ e he; simp [frameOf] at he
      | cons u l ih =>
        intro k hw e he
        simp only [frameOf, List.mem_cons] at he
        rcases he with rfl | he
        · exact hw u (by simp)
        · exact ih (k + 1) (fun x hx => hw x (by simp [hx])) e he
    refine this _ 0 fun u hu => ?_
    rcases List.mem_append.1 hu with hu | hu
    · exact TV.wfB_spec (allB_spec hx u hu)
    · rcases List.mem_cons.1 hu with rfl | hu
      · exact rfl
      · obtain ⟨q, hq, rfl⟩ := List.mem_map.1 hu
        exact SV.wfB_spec (allB_spec hy q hq)
  · exact hs2
  · intro l c hc g hg
    have := Ch.sat_rlt (hr.mem.sat l c hc) hg
    refine .inl ⟨hr.src l c hc g hg, ?_, ?_⟩
    · show g ≠ w.heap.size + 1
      omega
    · show g ≠ w.heap.size
      omega

/-! ### The iterator ends -/
def jumpE : Option Code → Option Exit
  | none => some .normal
  | some .ret => some .ret
  | some (.exit id) => some (.exit id)
  | _ => none

theorem it_end {X : Cx} {fr : Fr} {nI m : Nat} {G : Rg} {L : Loop} {fnI : Func} {Q : Exit → Act → World → Prop} {frI : Fr} {σ' : List Ch} {e e' : Exit} (hok : G.ok X fr m)
    (he : e = .normal ∨ e = .ret) (hres : fnI.results = #[]) (hL : L.state ≠ .busy) (hj : jumpE L.pending = some e') (h : WpE (X.af G) Q e' fr σ') :
    WpE (X.it nI m G (.loop L)) (QI X.P fnI G.l Q G.a') e frI σ' := by
  refine ⟨fun β' aI w hr => ?_⟩
  have hmm : m ≤ σ'.length := hr.fits
  have hl : w.heap[G.l]? = some (.loop L) := hr.mem.frame (G.l, .loop L) (by simp)
  have hag : ∀ i, i < m → β' i = G.β i := hr.agree
  have hne : ∀ (i : Nat) (c : Ch), σ'[i]? = some c → ∀ g, g ∈ c.rfoot (β' i) → g ≠ G.l := fun i c hc g hg => by
    rcases hr.src i c hc g hg with h1 | h1
    · exact h1.2.1
    · have := hok.lt
      intro e
      subst e
      have h1' : G.w2.heap.size ≤ G.l := h1
      omega
  have hnl : G.l ∉ ((G.r0, Obj.deferred (some [])) :: X.φ).map (·.1) := by
    simp only [List.map_cons, List.mem_cons, not_or]
    exact ⟨hok.ne, hok.nl⟩
  have hs := (hr.mem.reloop (.loop { L with state := .exhausted }) hne hnl).unframe
  have hrep : Rep (X.af G) β' fr σ' G.a' (w.putObj G.l (.loop { L with state := .exhausted })) := by
    refine ⟨?_, hok.size, Knows.ext hok.frwf hag hok.knows, fun e he => FV.wf_mono hmm (hok.frwf e he), hs, hr.same.trans (putObj_same _ _ _), fun i hi => (hag i (Nat.lt_of_lt_of_le hi hok.fits)).trans (hok.agree i hi), Nat.le_trans hok.fits hmm, ?_⟩
    · show mkD G.r0 :: G.a.defers = mkD G.r0 :: X.ds
      rw [hok.defers]
    · intro i c hc g hg
      rcases hr.src i c hc g hg with h1 | h1
      · exact .inl ⟨h1.1, h1.2.2⟩
      · exact .inr h1
  have hq := h.h β' _ _ hrep
  have hres' : (results fnI aI.tmps).run X.P w = .ok (.tuple #[]) w := by
    rw [results_eq, hres]
    simp []
  have key : aI.defers = [] ∧ ∃ v, (results fnI aI.tmps).run X.P w = .ok v w ∧ rangePost (fz none) 0 X.P G.l Q G.a' (.returned v) w := by
    refine ⟨hr.defers, _, hres', L.pending, _, run_endLoop hl hL, ?_⟩
    generalize w.putObj G.l (.loop { L with state := .exhausted }) = w4 at hq
    unfold jumpE at hj
    split at hj
    · rename_i hp; cases hj; rw [hp]; exact hq
    · rename_i hp; cases hj; rw [hp]; exact wpIn_ret hq
    · rename_i hp; cases hj; rw [hp]; exact wpIn_exit hq
    · cases hj
  rcases he with rfl | rfl
  · exact key
  · exact key

/-! ### A call of yield -/
/-- Where a call of yield stands. -/
structure Yd (Y : Cx) (frI : Fr) (σ : List Ch) where
  a : Act
  w : World
  β : Nat → Bd
  rep : Rep Y β frI σ a w
/-- What the iterator does behind the call. -/
def RK (P : Program) (all : List Oper) (Q : Exit → Act → World → Prop) (rest : List Oper) (a : Act) (d : Nat) : Ending → World → Prop
  | .returned v, w => wpListIn (fz none) 0 P all.toArray Q rest (a.put (some d) v) w
  | .panicked _, _ => False
  | .outgrown, _ => False
/-- The round's context, the record being in state s. -/
abbrev Cx.rnd (X : Cx) (G : Rg) (ps : Array Tmp) (assign body : Code) (s : LoopState) (m : Nat) (D : World × (Nat → Bd)) : Cx :=
  ⟨X.P, X.n, (G.l, .loop (G.L ps assign body s none)) :: (G.r0, .deferred (some [])) :: X.φ, D.1, m, D.2,
    fun g => ((X.F g ∨ X.w0.heap.size ≤ g) ∧ g ≠ G.l ∧ g ≠ G.r0) ∨ G.w2.heap.size ≤ g, some (some G.l), []⟩
def psFr : List Nat → List TV → Fr → Fr
  | p :: ps, v :: vs, fr => psFr ps vs ((p, .t v, none) :: fr)
  | _, _, fr => fr
def psOk (n : Nat) : List Nat → Bool
  | [] => true
  | p :: ps => match Nat.blt p n with
    | true => psOk n ps
    | false => false

theorem psFr_rep {β : Nat → Bd} {m n : Nat} : ∀ {ps : List Nat} {vs : List TV} {fr : Fr} {tm : Array Value}, (∀ v ∈ vs, v.wf m) → psOk n ps = true → tm.size = n → plainFr fr = true → Knows β fr { tmps := tm, defers := [] } → (∀ e ∈ fr, e.2.1.wf m) →
    ((ps.zip (vs.map (TV.den β))).foldl (fun tmps (t, a) => tmps.setIfInBounds t a) tm).size = n ∧ Knows β (psFr ps vs fr) { tmps := (ps.zip (vs.map (TV.den β))).foldl (fun tmps (t, a) => tmps.setIfInBounds t a) tm, defers := [] } ∧ ∀ e ∈ psFr ps vs fr, e.2.1.wf m
  | [], vs, fr, tm, _, _, hs, _, hk, hw => by
    cases vs <;> exact ⟨hs, hk, hw⟩
  | p :: ps, [], fr, tm, _, _, hs, _, hk, hw => ⟨hs, hk, hw⟩
  | p :: ps, v :: vs, fr, tm, hv, ho, hs, hp, hk, hw => by
    unfold psOk at ho
    split at ho
    · rename_i hlt
      have hpn : p < n := by simpa [Nat.blt_eq] using hlt
      refine psFr_rep (ps := ps) (vs := vs) (fr := (p, .t v, none) :: fr) (tm := tm.setIfInBounds p (v.den β)) (fun u hu => hv u (by simp [hu])) ho (by simpa using hs) (by simpa [plainFr] using hp) ?_ ?_
      · exact knows_put (d := p) (v := .t v) (g := none) (a := { tmps := tm, defers := [] }) hk (by rw [hs]; exact hpn) (fun k u t q hm => absurd hm (plainFr_no hp k u t q)) rfl
      · intro e he
        rcases List.mem_cons.1 he with rfl | he
        · exact hv v (by simp)
        · exact hw e he
    · cases ho
where
  plainFr_no : ∀ {fr : Fr}, plainFr fr = true → ∀ (k : Nat) (u : FV) (t : Nat) (q : Bool), (k, u, some (t, q)) ∉ fr
    | [], _, _, _, _, _ => by simp
    | (_, _, none) :: r, h, k, u, t, q => by
      intro hm
      rcases List.mem_cons.1 hm with hm | hm
      · simp at hm
      · exact plainFr_no (by simpa [plainFr] using h) k u t q hm
    | (_, _, some _) :: _, h, _, _, _, _ => by simp [plainFr] at h

theorem yield_run {P : Program} {a : Act} {w : World} {o : Oper} {c : Call} {fx : Operand} {l : Nat} {L : Loop} (ho : o.op = .call c) (hc : c.callee = .value fx) (hfx : a.eval fx = .func (.yield l) #[] #[])
    (hl : w.heap[l]? = some (.loop L)) (hs : c.args.size = L.params.size) :
    (execOp a.eval o).run P w = .ok (.round l L.fn ((L.params.zip (c.args.map a.eval)).foldl (fun tmps (t, a) => tmps.setIfInBounds t a) L.tmps) L.assign L.body) w := by
  unfold execOp
  rw [ho]
  simp only [resolve, hc, hfx, Deferred.ofValue, Sem.run_bind, Sem.run_pure, Result.andThen_ok, invoke]
  simp only [Array.empty_append] at *
  exact run_yield hl (by simpa using hs)

theorem opds_wf {fr : Fr} {m : Nat} (hw : ∀ e ∈ fr, e.2.1.wf m) : ∀ {l : List Operand} {r : List TV}, opds fr none l = some r → ∀ v ∈ r, v.wf m
  | [], r, h, v, hv => by simp [opds] at h; subst h; simp at hv
  | x :: l, r, h, v, hv => by
    simp only [opds] at h
    split at h
    · rename_i u h1
      split at h
      · rename_i us h2
        cases h
        rcases List.mem_cons.1 hv with rfl | hv
        · exact opd_wf hw h1
        · exact opds_wf hw h2 v hv
      · cases h
    · cases h
/-- Behind the assignments. -/
abbrev begQ (P : Program) (l : Nat) (body : Code) (R : Exit → Act → World → Prop) : Exit → Act → World → Prop :=
  Exit.then (fun a₁ w₁ => ∃ w₂, (Instr.beginRound l).run P w₁ = .ok () w₂ ∧ body.wpIn (fz (some l)) 0 P R a₁ w₂) (fun _ _ _ => False)
theorem rnd_ne {X : Cx} {fr : Fr} {mo : Nat} {G : Rg} {ps : Array Tmp} {assign body : Code} {s : LoopState} {m m0 nI : Nat} {frI frR : Fr} {σ σ' : List Ch} {o : Obj} {β : Nat → Bd} {aR : Act} {w : World}
    (hok : G.ok X fr mo) (D : Yd (X.it nI m0 G o) frI σ) (hr : Rep (X.rnd G ps assign body s m (D.w, D.β)) β frR σ' aR w) : ∀ (i : Nat) (c : Ch), σ'[i]? = some c → ∀ g, g ∈ c.rfoot (β i) → g ≠ G.l := fun i c hc g hg => by
  have hlt := hok.lt
  have h2 : G.w2.heap.size ≤ D.w.heap.size := D.rep.same.size
  rcases hr.src i c hc g hg with h1 | h1
  · rcases h1 with h1 | h1
    · exact h1.2.1
    · intro e; subst e; omega
  · have h1' : D.w.heap.size ≤ g := h1
    intro e
    subst e
    omega
/-- YIELD: the round's body, walked in its frame, over the chunks as they are. -/
theorem l_yield {X : Cx} {fr : Fr} {G : Rg} {ps : List Nat} {assign body : Code} {nI m0 : Nat} {Q : Exit → Act → World → Prop} {frI : Fr} {σ : List Ch} {all rest : List Oper} {o : Oper} {c : Call} {fx : Operand} {d : Nat} {vs : List TV}
    (hok : G.ok X fr m0)
    (ho : o.op = .call c) (hcc : c.callee = .value fx) (hd : o.dst = some d) (hg : guardYes all frI o)
    (hfx : opd frI none fx = some (.s (.raw (.func (.yield G.l) #[] #[])))) (hl : opds frI none c.args.toList = some vs) (hlen : Nat.beq c.args.size ps.length = true) (hps : psOk X.n ps = true) (hfr : plainFr fr = true)
    (h : ∀ D : Yd (X.it nI m0 G (.loop (G.L ps.toArray assign body .ready none))) frI σ,
      WpC (X.rnd G ps.toArray assign body .ready σ.length (D.w, D.β)) assign (begQ X.P G.l body (roundPost X.P G.l (RK X.P all Q rest D.a d))) (psFr ps vs fr) σ) :
    WpL (X.it nI m0 G (.loop (G.L ps.toArray assign body .ready none))) all Q (o :: rest) frI σ := by
  refine ⟨fun β a w hr => ?_⟩
  have hlk : w.heap[G.l]? = some (.loop (G.L ps.toArray assign body .ready none)) := hr.mem.frame (G.l, .loop (G.L ps.toArray assign body .ready none)) (by simp)
  have hfxv := opd_sound (g := none) hr.knows trivial hfx
  have hlv := opds_sound (g := none) hr.knows trivial hl
  have hsz := Nat.eq_of_beq_eq_true hlen
  have hrun := yield_run (P := X.P) ho hcc hfxv hlk (by simpa using hsz)
  have hW := h ⟨a, w, β, hr⟩
  have hmm : m0 ≤ σ.length := hr.fits
  have hag : ∀ i, i < m0 → β i = G.β i := hr.agree
  have hne : ∀ (i : Nat) (c : Ch), σ[i]? = some c → ∀ g, g ∈ c.rfoot (β i) → g ≠ G.l := fun i c hc g hg => by
    rcases hr.src i c hc g hg with h1 | h1
    · exact h1.2.1
    · have := hok.lt
      intro e
      subst e
      have h1' : G.w2.heap.size ≤ G.l := h1
      omega
  have hnl : G.l ∉ ((G.r0, Obj.deferred (some [])) :: X.φ).map (·.1) := by
    simp only [List.map_cons, List.mem_cons, not_or]
    exact ⟨hok.ne, hok.nl⟩
  show wpListIn (fz none) 0 X.P all.toArray Q (o :: rest) a w
  unfold wpListIn
  rw [if_pos (guardYes_wanted hr hg)]
  refine ⟨fun f _ => trivial, ?_⟩
  show o.uponIn (fz none) 0 X.P a _ Q ((o.semAt none a.eval).run X.P w)
  rw [semAt_of hrun (by simp), hrun]
  refine ⟨fun h => (by cases h), ?_⟩
  refine roundIn_of_wpIn (F := fz none) (fz_fn none _) ?_
  have hvw : ∀ v ∈ vs, v.wf σ.length := opds_wf hr.frwf hl
  have hzip : ((ps.toArray.zip (c.args.map a.eval)).foldl (fun tmps (t, a) => tmps.setIfInBounds t a) G.a.tmps) = ((ps.zip (vs.map (TV.den β))).foldl (fun tmps (t, a) => tmps.setIfInBounds t a) G.a.tmps) := by
    rw [← hlv, show c.args.map a.eval = (c.args.toList.map a.eval).toArray by apply Array.ext'; simp]
    simp
  have hA := psFr_rep (β := β) (m := σ.length) (n := X.n) (ps := ps) (vs := vs) (fr := fr) (tm := G.a.tmps) hvw hps hok.size hfr (Knows.ext hok.frwf hag hok.knows) (fun e he => FV.wf_mono hmm (hok.frwf e he))
  have hrep : Rep (X.rnd G ps.toArray assign body .ready σ.length (w, β)) β (psFr ps vs fr) σ { tmps := (ps.zip (vs.map (TV.den β))).foldl (fun tmps (t, a) => tmps.setIfInBounds t a) G.a.tmps, defers := [] } w :=
    ⟨rfl, hA.1, hA.2.1, hA.2.2, hr.mem, Same.refl _, fun _ _ => rfl, Nat.le_refl _, fun i c hc g hg => .inl (hr.src i c hc g hg)⟩
  have hfin := hW.h β _ _ hrep
  refine wpIn_mono (Q := begQ X.P G.l body (roundPost X.P G.l (RK X.P all Q rest a d))) ?_ ?_
  · show assign.wpIn (fz (some G.l)) (0 - 1) X.P _ _ _
    dsimp only at hzip ⊢
    rw [hzip]
    exact hfin
  · intro e0 a0 w0 hq0
    cases e0 <;> first
      | exact (hq0 : False).elim
      | (obtain ⟨w2, h1, h2⟩ := hq0
         refine ⟨w2, h1, wpIn_mono h2 ?_⟩
         intro e a1 w1 hq
         have hRK : ∀ e w, RK X.P all Q rest a d e w → (match e with
             | .returned v => wpListIn (fz none) 0 X.P all.toArray Q rest (a.put o.dst v) w
             | .panicked chain => Q (.panic chain) a w
             | .outgrown => LetsOut Q) := by
           intro e w hk
           rw [hd]
           cases e with
           | returned v => exact hk
           | panicked c => exact (hk : False).elim
           | outgrown => exact (hk : False).elim
         cases e <;> first
           | exact (hq : False).elim
           | (obtain ⟨v, w2, h1, h2⟩ := hq; exact ⟨v, w2, h1, hRK _ _ h2⟩))

/-- Behind the assignments: the round begins. -/
theorem rnd_begin {X : Cx} {fr : Fr} {mo : Nat} {G : Rg} {ps : Array Tmp} {assign body : Code} {m m0 : Nat} {R : Exit → Act → World → Prop} {frI frR : Fr} {σ σ' : List Ch} {nI : Nat} {o : Obj}
    (hok : G.ok X fr mo) (D : Yd (X.it nI m0 G o) frI σ) (h : WpC (X.rnd G ps assign body .busy m (D.w, D.β)) body R frR σ') :
    WpE (X.rnd G ps assign body .ready m (D.w, D.β)) (begQ X.P G.l body R) .normal frR σ' := by
  refine ⟨fun β aR w hr => ?_⟩
  have hlk : w.heap[G.l]? = some (.loop (G.L ps assign body .ready none)) := hr.mem.frame (G.l, .loop (G.L ps assign body .ready none)) (by simp)
  have hne := rnd_ne hok D hr
  have hnl : G.l ∉ ((G.r0, Obj.deferred (some [])) :: X.φ).map (·.1) := by
    simp only [List.map_cons, List.mem_cons, not_or]
    exact ⟨hok.ne, hok.nl⟩
  refine ⟨_, run_beginRound hlk rfl, h.h β _ _ ⟨hr.defers, hr.size, hr.knows, hr.frwf, hr.mem.reloop _ hne hnl, hr.same.trans (putObj_same _ _ _), hr.agree, hr.fits, hr.src⟩⟩

def stOf : Option Code → LoopState
  | none => .ready
  | some _ => .done
/-- A round's end: off its end (b = true), or by a jump. -/
theorem rnd_end {X : Cx} {fr : Fr} {mo : Nat} {G : Rg} {ps : Array Tmp} {assign body : Code} {nI m0 : Nat} {Q : Exit → Act → World → Prop} {frI frR : Fr} {σ σ' : List Ch} {all rest : List Oper} {d : Nat} {e : Exit} {j : Option Code}
    (hok : G.ok X fr mo) (D : Yd (X.it nI m0 G (.loop (G.L ps assign body .ready none))) frI σ) (hput : canPut nI (gsOf all all) d frI = true) (hwhen : whenB (gsOf all all) frI = true)
    (he : (e = .normal ∧ j = none) ∨ (e = .ret ∧ j = some .ret) ∨ ∃ id, e = .exit id ∧ j = some (.exit id))
    (h : WpL (X.it nI m0 G (.loop (G.L ps assign body (stOf j) j))) all Q rest ((d, .t (.s (.bool j.isNone)), none) :: frI) σ') :
    WpE (X.rnd G ps assign body .busy σ.length (D.w, D.β)) (roundPost X.P G.l (RK X.P all Q rest D.a d)) e frR σ' := by
  refine ⟨fun β aR w hr => ?_⟩
  have hsp := canPut_spec (whenB_spec hwhen) hput
  have hlk : w.heap[G.l]? = some (.loop (G.L ps assign body .busy none)) := hr.mem.frame (G.l, .loop (G.L ps assign body .busy none)) (by simp)
  have hne := rnd_ne hok D hr
  have hnl : G.l ∉ ((G.r0, Obj.deferred (some [])) :: X.φ).map (·.1) := by
    simp only [List.map_cons, List.mem_cons, not_or]
    exact ⟨hok.ne, hok.nl⟩
  have hag : ∀ i, i < σ.length → β i = D.β i := hr.agree
  have hle : σ.length ≤ σ'.length := hr.fits
  have hm0 : m0 ≤ σ.length := D.rep.fits
  have hend := run_endRound (P := X.P) (w := w) j hlk
  have hst : (if j.isNone then LoopState.ready else LoopState.done) = stOf j := by cases j <;> rfl
  rw [hst] at hend
  have hrep : Rep (X.it nI m0 G (.loop (G.L ps assign body (stOf j) j))) β ((d, .t (.s (.bool j.isNone)), none) :: frI) σ' (D.a.put (some d) (.bool j.isNone))
      (w.putObj G.l (.loop (G.L ps assign body (stOf j) j))) := by
    refine ⟨D.rep.defers, by simpa [Act.put] using D.rep.size, ?_, ?_, hr.mem.reloop _ hne hnl, ?_, fun i hi => (hag i (Nat.lt_of_lt_of_le hi hm0)).trans (D.rep.agree i hi), Nat.le_trans hm0 hle, ?_⟩
    · exact knows_put (Knows.ext D.rep.frwf hag D.rep.knows) (by rw [D.rep.size]; exact hsp.1) hsp.2 rfl
    · intro x hx
      rcases List.mem_cons.1 hx with rfl | hx
      · exact trivial
      · exact FV.wf_mono hle (D.rep.frwf x hx)
    · exact D.rep.same.trans (hr.same.trans (putObj_same _ _ _))
    · intro i c hc g hg
      rcases hr.src i c hc g hg with h1 | h1
      · exact h1
      · have h1' : D.w.heap.size ≤ g := h1
        exact .inr (Nat.le_trans D.rep.same.size h1')
  have hk := h.h β _ _ hrep
  rcases he with ⟨rfl, rfl⟩ | ⟨rfl, rfl⟩ | ⟨id, rfl, rfl⟩
  · exact ⟨_, _, hend, hk⟩
  · exact ⟨_, _, hend, hk⟩
  · exact ⟨_, _, hend, hk⟩

/-! ### The function that holds the loop -/
theorem enterM {P : Program} {f : FuncId} {fn : Func} {c : Code} {args : List TV} {σ0 : List Ch} {γ : Type} {pc : γ → Prop} {fv : γ → FV} {σ1 : γ → List Ch} {n : Nat}
    (hf : P.funcs[f]? = some fn) (hb : fn.body = some c) (hn : fn.ntmps = n) (hargs : allB (TV.wfB σ0.length) args = true) (hle : Nat.ble args.length n = true)
    (h : ∀ φ w0 β0 F, WpC ⟨P, n, φ, w0, σ0.length, β0, F, none, []⟩ c (bodyPostM (fz none) 0 P fn (Leaves φ w0 σ0.length β0 F pc fv σ1)) (frameOf 0 args) σ0) : TriS P f args σ0 pc fv σ1 := by
  refine ⟨fun β φ w hs => ?_⟩
  refine (callsIn_wide (n := 0)).1 (callsIn_of_wp_marks (F := Fence.wide) (n := 0) hf hb trivial ((wpIn_wide (n := 0)).2 ?_))
  refine (h φ w β (Feet β σ0)).h β _ w ⟨rfl, ?_, ?_, ?_, hs, Same.refl w, fun _ _ => rfl, Nat.le_refl _, fun l d hd g hg => .inl ⟨l, d, hd, hg⟩⟩
  · have := Nat.le_of_ble_eq_true hle
    simp [hn]; omega
  · intro d v g hl
    obtain ⟨rfl, u, hu, _, rfl⟩ := look_frameOf hl
    simp only [Nat.sub_zero] at hu
    have hd := (List.getElem?_eq_some_iff.1 hu).1
    rw [Array.getElem?_append_left (by simpa using hd)]
    simp [hu, FV.den]
  · intro e he
    have : ∀ (l : List TV) (k : Nat), (∀ x ∈ l, x.wf σ0.length) → ∀ e ∈ frameOf k l, e.2.1.wf σ0.length := by
      intro l
      induction l with
      | nil => intro k _ e he; simp [frameOf] at he
      | cons u l ih =>
        intro k hw e he
        simp only [frameOf, List.mem_cons] at he
        rcases he with rfl | he
        · exact hw u (by simp)
        · exact ih (k + 1) (fun x hx => hw x (by simp [hx])) e he
    exact this args 0 (fun x hx => TV.wfB_spec (allB_spec hargs x hx)) e he

/-- Leaving such a function: no loop was entered. -/
theorem finM0 {X : Cx} {fr : Fr} {σ : List Ch} {fn : Func} {R : Ending → World → Prop} {e : Exit} (he : e = .normal ∨ e = .ret) (hds : X.ds = [])
    (h : WpE X (bodyPost X.P fn R) e fr σ) : WpE X (bodyPostM (fz none) 0 X.P fn R) e fr σ := by
  refine ⟨fun β a w hr => ?_⟩
  have hq := h.h β a w hr
  have hd := hr.defers.trans hds
  rcases he with rfl | rfl
  · obtain ⟨_, v, h1, h2⟩ := (hq : _ ∧ _)
    show LeavesInM (fz none) 0 X.P fn a.tmps R a.defers .returning w
    rw [hd]; exact ⟨v, h1, h2⟩
  · obtain ⟨_, v, h1, h2⟩ := (hq : _ ∧ _)
    show LeavesInM (fz none) 0 X.P fn a.tmps R a.defers .returning w
    rw [hd]; exact ⟨v, h1, h2⟩
/-- Leaving such a function behind the loop: the mark is taken. -/
theorem finM {X : Cx} {fr0 : Fr} {mo : Nat} {G : Rg} (hok : G.ok X fr0 mo) (hds : X.ds = []) {fr : Fr} {σ : List Ch} {fn : Func} {R : Ending → World → Prop} {e : Exit} (he : e = .normal ∨ e = .ret ∨ ∃ c, e = .panic c)
    (h : WpE X (bodyPost X.P fn R) e fr σ) : WpE (X.af G) (bodyPostM (fz none) 0 X.P fn R) e fr σ := by
  refine ⟨fun β a w hr => ?_⟩
  have hd : a.defers = [mkD G.r0] := by rw [hr.defers]; show mkD G.r0 :: X.ds = _; rw [hds]
  have hlk : w.heap[G.r0]? = some (.deferred (some [])) := hr.mem.frame (G.r0, .deferred (some [])) (by simp)
  have hne : ∀ (i : Nat) (c : Ch), σ[i]? = some c → ∀ g, g ∈ c.rfoot (β i) → g ≠ G.r0 := fun i c hc g hg => by
    rcases hr.src i c hc g hg with h1 | h1
    · exact h1.2
    · have := hok.lt0
      intro e
      subst e
      have h1' : G.w2.heap.size ≤ G.r0 := h1
      omega
  have hs := (hr.mem.reloop (.deferred none) hne hok.nr).unframe
  have hrep : Rep X β fr σ { a with defers := [] } (w.putObj G.r0 (.deferred none)) := by
    refine ⟨hds.symm, hr.size, hr.knows, hr.frwf, hs, (hok.same.trans hr.same).trans (putObj_same _ _ _), hr.agree, hr.fits, ?_⟩
    intro i c hc g hg
    rcases hr.src i c hc g hg with h1 | h1
    · exact h1.1
    · exact .inr (Nat.le_trans hok.same.size h1)
  have hq := h.h β _ _ hrep
  have hk := run_takeDeferred (P := X.P) hlk
  rcases he with rfl | rfl | ⟨c, rfl⟩
  · obtain ⟨_, v, h1, h2⟩ := (hq : _ ∧ _)
    show LeavesInM (fz none) 0 X.P fn a.tmps R a.defers .returning w
    rw [hd]
    exact ⟨by simp, .inl ⟨G.r0, _, rfl, hk, v, h1, h2⟩⟩
  · obtain ⟨_, v, h1, h2⟩ := (hq : _ ∧ _)
    show LeavesInM (fz none) 0 X.P fn a.tmps R a.defers .returning w
    rw [hd]
    exact ⟨by simp, .inl ⟨G.r0, _, rfl, hk, v, h1, h2⟩⟩
  · obtain ⟨_, h2⟩ := (hq : _ ∧ _)
    show LeavesInM (fz none) 0 X.P fn a.tmps R a.defers (.panicking c) w
    rw [hd]
    exact ⟨by simp, .inl ⟨G.r0, _, rfl, hk, h2⟩⟩
end Go.Sx

namespace Go.Sx
open Go
section
variable {X : Cx} {fr : Fr} {σ : List Ch}
theorem nilCell (i e sz : Nat) {t : Nat} (hc : σ[i]? = some (.blk t [.raw (.slice none 0 0)])) : InTo X fr σ fr ((σ ++ [Ch.own e sz 0 []]).set i (.blk t [.sl σ.length 0 0 0])) := by
  intro β a w hr
  have hlt := (List.getElem?_eq_some_iff.1 hc).1
  obtain ⟨β', h1, h2, h3⟩ := push_nil hr.mem e sz
  have hc' : (σ ++ [Ch.own e sz 0 []])[i]? = some (.blk t [.raw (.slice none 0 0)]) := by rw [List.getElem?_append_left hlt]; exact hc
  refine ⟨β', hr.defers, hr.size, Knows.ext hr.frwf h1 hr.knows, fun x hx => FV.wf_mono (by simp) (hr.frwf x hx), ?_, hr.same, fun i hi => (h1 i (Nat.lt_of_lt_of_le hi hr.fits)).trans (hr.agree i hi), by have := hr.fits; simp; omega, ?_⟩
  · refine h3.weak hc' (fun g hg => hg) (fun g hg => hg) ?_ ?_
    · intro x hx
      simp only [List.mem_singleton] at hx
      subst hx
      show σ.length < _
      simp
    · have hs := h3.sat i _ hc'
      simp only [Ch.sat] at hs ⊢
      refine ⟨hs.1, ?_⟩
      rw [hs.2]
      simp [SV.den, h2]
  · intro l c hl g hg
    by_cases hil : i = l
    · subst hil
      rw [List.getElem?_set_self (by simp; omega)] at hl
      cases hl
      have hg' : g ∈ (Ch.blk t [.raw (.slice none 0 0)]).rfoot (β' i) := hg
      rw [h1 i hlt] at hg'
      exact hr.src i _ hc g hg'
    · rw [List.getElem?_set_ne hil] at hl
      rcases append_get hl with ⟨hl', hd'⟩ | ⟨rfl, rfl⟩
      · rw [h1 l hl'] at hg; exact hr.src l c hd' g hg
      · simp [Ch.rfoot, Ch.foot, h2] at hg
theorem c_nil (i e sz : Nat) {t : Nat} {c : Code} {Q : Exit → Act → World → Prop} (hc : σ[i]? = some (.blk t [.raw (.slice none 0 0)])) (h : forceL ((σ ++ [Ch.own e sz 0 []]).set i (.blk t [.sl σ.length 0 0 0])) fun σ' => WpC X c Q fr σ') : WpC X c Q fr σ := by
  rw [forceL_eq] at h
  exact h.into (nilCell i e sz hc)
/-- A scope that no goto leaves. -/
theorem c_scope {c : Code} {Q : Exit → Act → World → Prop} (hfe : X.fe = none) (h : WpC X c (Exit.noGoto Q) fr σ) : WpC X (.scope c) Q fr σ := by
  refine ⟨fun β a w hr => ?_⟩
  have := h.h β a w hr
  rw [hfe] at this ⊢
  exact wp_scope_straight this
theorem e_scope {e : Exit} {Q : Exit → Act → World → Prop} (he : ∀ l, e ≠ .goto l) (h : WpE X Q e fr σ) : WpE X (Exit.noGoto Q) e fr σ := by
  refine ⟨fun β a w hr => ?_⟩
  have := h.h β a w hr
  cases e <;> first | exact this | exact absurd rfl (he _)
theorem c_label {l : Nat} {Q : Exit → Act → World → Prop} (h : WpE X Q .normal fr σ) : WpC X (.label l) Q fr σ := by
  refine ⟨fun β a w hr => ?_⟩
  have := h.h β a w hr
  cases hm : X.fe with
  | none => exact wp_label this
  | some r => exact wpIn_label this
end
end Go.Sx

namespace Go.Sx
open Go

def mask (hs : List Nat) : Nat → List Ch → List Ch
  | _, [] => []
  | k, c :: l => (match elemN k hs with
    | true => c
    | false => .dead) :: mask hs (k + 1) l
theorem mask_length (hs : List Nat) : ∀ (l : List Ch) (k : Nat), (mask hs k l).length = l.length
  | [], _ => rfl
  | c :: l, k => by simp [mask, mask_length hs l]
theorem mask_get {hs : List Nat} : ∀ {l : List Ch} {k i : Nat} {c : Ch}, (mask hs k l)[i]? = some c → (k + i ∈ hs ∧ l[i]? = some c) ∨ (c = .dead ∧ i < l.length)
  | [], k, i, c, h => by simp [mask] at h
  | d :: l, k, 0, c, h => by
    simp only [mask, List.getElem?_cons_zero, Option.some.injEq] at h
    split at h
    · rename_i he; subst h; exact .inl ⟨by simpa using elemN_true he, rfl⟩
    · exact .inr ⟨h.symm, by simp⟩
  | d :: l, k, i + 1, c, h => by
    simp only [mask, List.getElem?_cons_succ] at h
    rcases mask_get h with ⟨h1, h2⟩ | ⟨h1, h2⟩
    · exact .inl ⟨by rw [show k + (i + 1) = k + 1 + i by omega]; exact h1, by simpa using h2⟩
    · exact .inr ⟨h1, by simp; omega⟩
theorem mask_at {hs : List Nat} : ∀ {l : List Ch} {k i : Nat} {c : Ch}, k + i ∈ hs → l[i]? = some c → (mask hs k l)[i]? = some c
  | [], _, _, _, _, h => by simp at h
  | d :: l, k, 0, c, hm, h => by
    simp only [List.getElem?_cons_zero, Option.some.injEq] at h
    subst h
    have : elemN k hs = true := elemN_iff.2 (by simpa using hm)
    simp [mask, this]
  | d :: l, k, i + 1, c, hm, h => by
    simp only [mask, List.getElem?_cons_succ]
    exact mask_at (by rw [show k + 1 + i = k + (i + 1) by omega]; exact hm) (by simpa using h)
def heldP (σ0 σ : List Ch) : List Nat → Prop
  | [] => True
  | i :: r => σ[i]? = σ0[i]? ∧ heldP σ0 σ r
theorem heldP_mem {σ0 σ : List Ch} : ∀ {hs : List Nat}, heldP σ0 σ hs → ∀ i ∈ hs, σ[i]? = σ0[i]?
  | [], _, i, h => by cases h
  | j :: r, h, i, hi => by
    rcases List.mem_cons.1 hi with rfl | hi
    · exact h.1
    · exact heldP_mem h.2 i hi
theorem heldP_self (σ : List Ch) : ∀ hs, heldP σ σ hs
  | [] => trivial
  | _ :: r => ⟨rfl, heldP_self σ r⟩

/-- The chunks that are held, as they are. -/
theorem mask_sat {β : Nat → Bd} {σ : List Ch} {φ : Heap} {w : World} (h : Sat β σ φ w) (hs : List Nat) : Sat β (mask hs 0 σ) [] w := by
  refine ⟨?_, ?_, ?_, ?_, ?_⟩
  · intro i j c d hc hd hij g hg
    rcases mask_get hc with ⟨_, h1⟩ | ⟨rfl, _⟩
    · rcases mask_get hd with ⟨_, h2⟩ | ⟨rfl, _⟩
      · exact h.disj i j c d h1 h2 hij g hg
      · simp [Ch.rfoot, Ch.foot]
    · simp [Ch.foot] at hg
  · intro i c _ g _; simp
  · intro i c hc
    rcases mask_get hc with ⟨_, h1⟩ | ⟨rfl, _⟩
    · exact h.sat i c h1
    · trivial
  · intro p hp; cases hp
  · intro c hc
    obtain ⟨i, hi⟩ := List.getElem?_of_mem hc
    rw [mask_length]
    rcases mask_get hi with ⟨_, h1⟩ | ⟨rfl, _⟩
    · exact h.wf c (List.mem_of_getElem? h1)
    · trivial
theorem mask_over {β β0 : Nat → Bd} {σ0 σ : List Ch} {w : World} {hs : List Nat} (h : Sat β0 (mask hs 0 σ0) [] w) (hle : σ0.length ≤ σ.length) (hb : ∀ i, i < σ0.length → β i = β0 i) (hh : heldP σ0 σ hs) (hlt : ∀ i ∈ hs, i < σ0.length) : Sat β (mask hs 0 σ) [] w := by
  have key : ∀ (i : Nat) (c : Ch), (mask hs 0 σ)[i]? = some c → ((mask hs 0 σ0)[i]? = some c ∧ i < σ0.length) ∨ c = .dead := by
    intro i c hc
    rcases mask_get hc with ⟨h1, h2⟩ | ⟨rfl, _⟩
    · rw [Nat.zero_add] at h1
      left
      have := heldP_mem hh i h1
      rw [h2] at this
      exact ⟨mask_at (by rw [Nat.zero_add]; exact h1) this.symm, hlt i h1⟩
    · exact .inr rfl
  refine ⟨?_, ?_, ?_, ?_, ?_⟩
  · intro i j c d hc hd hij g hg
    rcases key i c hc with ⟨h1, h1'⟩ | rfl
    · rcases key j d hd with ⟨h2, h2'⟩ | rfl
      · rw [hb i h1'] at hg
        rw [hb j h2']
        exact h.disj i j c d h1 h2 hij g hg
      · simp [Ch.rfoot, Ch.foot]
    · simp [Ch.foot] at hg
  · intro i c _ g _; simp
  · intro i c hc
    rcases key i c hc with ⟨h1, h1'⟩ | rfl
    · rw [hb i h1']
      refine Ch.sat_ext (m := σ0.length) hb ?_ (h.sat i c h1)
      have := h.wf c (List.mem_of_getElem? h1)
      rwa [mask_length] at this
    · trivial
  · intro p hp; cases hp
  · intro c hc
    obtain ⟨i, hi⟩ := List.getElem?_of_mem hc
    rw [mask_length]
    rcases key i c hi with ⟨h1, _⟩ | rfl
    · have := h.wf c (List.mem_of_getElem? h1)
      rw [mask_length] at this
      exact Ch.wf_mono hle this
    · trivial

/-- A value that the memory has no part in, but for what is held. -/
def calmH (tt : TT) (n : Nat) (gs : List Nat) (all : List Oper) (fr : Fr) (τ : List Ch) (m : Nat) (o : Oper) : Option (Nat × FV × Gd) := match o.dst with
  | some d => match canPut n gs d fr with
    | true => match guardI all gs fr o with
      | .no => match ev tt fr none τ o.op with
        | .val v => some (d, v, none)
        | _ => none
      | .yes t p _ => match Nat.beq t d with
        | true => none
        | false => match ev tt fr (some (t, p)) τ o.op with
          | .val v => match v.wfB m with
            | true => some (d, v, some (t, p))
            | false => none
          | _ => none
      | .bad => none
    | false => none
  | none => none
def pickHd (tt : TT) (n : Nat) (gs : List Nat) (al : List Oper) (fr : Fr) (τ : List Ch) (m : Nat) (all : Array Oper) (tab : List (Nat × Oper × List Nat)) (ls : List Nat) : List (Nat × Oper) → Option (Nat × Nat × FV × Gd)
  | [] => none
  | (i, o) :: rs => match calmH tt n gs al fr τ m o with
    | some (d, v, g) => match freeT all i o ls tab with
      | true => some (i, d, v, g)
      | false => pickHd tt n gs al fr τ m all tab ls rs
    | none => pickHd tt n gs al fr τ m all tab ls rs
noncomputable def exHSb (tt : TT) (ct : CT) (n : Nat) (gs : List Nat) (all : List Oper) (tab : List (Nat × Oper × List Nat)) (hs : List Nat) (σ0 : List Ch) (K : Fr → List Ch → Prop) (ih : List Nat → Fr → List Ch → Prop) (ls : List Nat) (fr : Fr) (σ : List Ch) : Prop :=
  match readyT ls tab with
  | [] => K fr σ
  | r :: rs => match pickHd tt n gs all fr (mask hs 0 σ) σ.length all.toArray tab ls (r :: rs) with
    | some (i, d, v, g) => ih (i :: ls) ((d, v, g) :: fr) σ
    | none => allK (fun p => stepH tt ct n gs all p.2 (fun fr' σ' => heldP σ0 σ' hs ∧ ih (p.1 :: ls) fr' σ') fr σ) (r :: rs)
noncomputable def exHS (tt : TT) (ct : CT) (n : Nat) (gs : List Nat) (all : List Oper) (tab : List (Nat × Oper × List Nat)) (hs : List Nat) (σ0 : List Ch) (K : Fr → List Ch → Prop) (f : Nat) : List Nat → Fr → List Ch → Prop :=
  Nat.rec (motive := fun _ => List Nat → Fr → List Ch → Prop) (fun ls fr σ => match readyT ls tab with
    | [] => K fr σ
    | _ :: _ => False) (fun _ ih ls fr σ => exHSb tt ct n gs all tab hs σ0 K ih ls fr σ) f

theorem pickHd_spec {tt : TT} {n : Nat} {gs : List Nat} {al : List Oper} {fr : Fr} {τ : List Ch} {m : Nat} {all : Array Oper} {tab : List (Nat × Oper × List Nat)} {ls : List Nat} {i d : Nat} {v : FV} {g : Gd} : ∀ {rs : List (Nat × Oper)}, pickHd tt n gs al fr τ m all tab ls rs = some (i, d, v, g) →
    ∃ o, (i, o) ∈ rs ∧ calmH tt n gs al fr τ m o = some (d, v, g) ∧ freeT all i o ls tab = true
  | [], h => by cases h
  | (k, p) :: rs, h => by
    unfold pickHd at h
    split at h
    · rename_i d' v' g' hc
      split at h
      · rename_i hf
        cases h
        exact ⟨p, List.mem_cons_self, hc, hf⟩
      · obtain ⟨o, h1, h2⟩ := pickHd_spec h; exact ⟨o, List.mem_cons_of_mem _ h1, h2⟩
    · obtain ⟨o, h1, h2⟩ := pickHd_spec h; exact ⟨o, List.mem_cons_of_mem _ h1, h2⟩
theorem calmH_spec {tt : TT} {n : Nat} {gs : List Nat} {al : List Oper} {fr : Fr} {τ : List Ch} {m : Nat} {o : Oper} {d : Nat} {v : FV} {g : Gd} (h : calmH tt n gs al fr τ m o = some (d, v, g)) : o.dst = some d ∧ canPut n gs d fr = true ∧
    ((guardI al gs fr o = .no ∧ g = none ∧ ev tt fr none τ o.op = .val v) ∨ (∃ t p b, guardI al gs fr o = .yes t p b ∧ t ≠ d ∧ g = some (t, p) ∧ ev tt fr (some (t, p)) τ o.op = .val v ∧ v.wfB m = true)) := by
  unfold calmH at h
  split at h
  · rename_i d' hd
    split at h
    · rename_i hp
      split at h
      · rename_i hg
        split at h
        · rename_i v' hv
          cases h
          exact ⟨hd, hp, .inl ⟨hg, rfl, hv⟩⟩
        · cases h
      · rename_i t p b hg
        split at h
        · cases h
        · rename_i htd
          split at h
          · rename_i v' hv
            split at h
            · rename_i hw
              cases h
              exact ⟨hd, hp, .inr ⟨t, p, b, hg, (fun e => by subst e; rw [Nat.beq_refl] at htd; cases htd), rfl, hv, hw⟩⟩
            · cases h
          · cases h
      · cases h
    · cases h
  · cases h

section
variable {X : Cx} {tt : TT} {ct : CT} {all : List Oper} {Q : Exit → Act → World → Prop}

theorem exHS_sound (htt : TTok X.P tt) (hct : CTok X.P ct) {K : Fr → List Ch → Prop} (hK : ∀ fr σ, K fr σ → WpE X Q .normal fr σ) (hns : Region.noSelect all.toArray = true) {hs : List Nat} {σ0 : List Ch} {β0 : Nat → Bd} (hlt : ∀ i ∈ hs, i < σ0.length) (hwf0 : ∀ c ∈ mask hs 0 σ0, c.wf σ0.length) :
    ∀ (f : Nat) (ls : List Nat) (la : Array Bool) (fr : Fr) (σ : List Ch), Books all.length ls la → WhenIn (gsOf all all) fr → exHS tt ct X.n (gsOf all all) all (tabFrom 0 all) hs σ0 K f ls fr σ →
      ∀ β a w, Rep X β fr σ a w → σ0.length ≤ σ.length → (∀ i, i < σ0.length → β i = β0 i) → heldP σ0 σ hs → wpAnyH X.P .any all.toArray (NoPan Q) (fun w => Sat β0 (mask hs 0 σ0) [] w) f la a w
  | 0, ls, la, fr, σ, hb, hw, h, β, a, w, hr, _, _, _ => by
    replace h : (match readyT ls (tabFrom 0 all) with
      | [] => K fr σ
      | _ :: _ => False) := h
    split at h
    · rename_i he
      have hnil : Region.ready .any all.toArray la = [] := List.eq_nil_iff_forall_not_mem.2 fun j hj => by
        obtain ⟨o, ho⟩ := (books_ready hb).1 hj
        rw [he] at ho; cases ho
      exact ⟨hnil, (hK fr σ h).h β a w hr⟩
    · exact h.elim
  | f + 1, ls, la, fr, σ, hb, hw, h, β, a, w, hr, hle, hβ, hh => by
    have ih := exHS_sound (β0 := β0) htt hct hK hns hlt hwf0 f
    have hsat : ∀ {β : Nat → Bd} {fr : Fr} {σ : List Ch} {a : Act} {w : World}, Rep X β fr σ a w → σ0.length ≤ σ.length → (∀ i, i < σ0.length → β i = β0 i) → heldP σ0 σ hs → Sat β0 (mask hs 0 σ0) [] w := by
      intro β fr σ a w hr hle hβ hh
      have h1 := mask_sat hr.mem hs
      have key : ∀ (i : Nat) (c : Ch), (mask hs 0 σ0)[i]? = some c → ((mask hs 0 σ)[i]? = some c ∧ i < σ0.length) ∨ c = .dead := by
        intro i c hc
        rcases mask_get hc with ⟨h1, h2⟩ | ⟨rfl, _⟩
        · rw [Nat.zero_add] at h1
          left
          have := heldP_mem hh i h1
          rw [h2] at this
          exact ⟨mask_at (by rw [Nat.zero_add]; exact h1) this, hlt i h1⟩
        · exact .inr rfl
      refine ⟨?_, ?_, ?_, ?_, ?_⟩
      · intro i j c d hc hd hij g hg
        rcases key i c hc with ⟨q1, q1'⟩ | rfl
        · rcases key j d hd with ⟨q2, q2'⟩ | rfl
          · rw [← hβ i q1'] at hg
            rw [← hβ j q2']
            exact h1.disj i j c d q1 q2 hij g hg
          · simp [Ch.rfoot, Ch.foot]
        · simp [Ch.foot] at hg
      · intro i c _ g _; simp
      · intro i c hc
        rcases key i c hc with ⟨q1, q1'⟩ | rfl
        · rw [← hβ i q1']
          exact Ch.sat_ext (m := σ0.length) (fun i hi => (hβ i hi).symm) (hwf0 c (List.mem_of_getElem? hc)) (h1.sat i c q1)
        · trivial
      · intro p hp; cases hp
      · intro c hc; rw [mask_length]; exact hwf0 c hc
    replace h : exHSb tt ct X.n (gsOf all all) all (tabFrom 0 all) hs σ0 K (exHS tt ct X.n (gsOf all all) all (tabFrom 0 all) hs σ0 K f) ls fr σ := h
    unfold exHSb at h
    have step : ∀ {i : Nat} {o : Oper}, (i, o) ∈ readyT ls (tabFrom 0 all) → stepH tt ct X.n (gsOf all all) all o (fun fr' σ' => heldP σ0 σ' hs ∧ exHS tt ct X.n (gsOf all all) all (tabFrom 0 all) hs σ0 K f (i :: ls) fr' σ') fr σ →
        wpLst none X.P all.toArray (Behind Q (fun a' w' => Sat β0 (mask hs 0 σ0) [] w' ∧ wpAnyH X.P .any all.toArray (NoPan Q) (fun w => Sat β0 (mask hs 0 σ0) [] w) f (la.setIfInBounds i true) a' w')) [o] a w := by
      intro i o hio hs'
      have hop := ready_op hio
      let X1 : Cx := { X.pl with m := σ.length, β0 := β }
      have hr1 : Rep X1 β fr σ a w := ⟨hr.defers, hr.size, hr.knows, hr.frwf, hr.mem, hr.same, fun _ _ => rfl, Nat.le_refl _, hr.src⟩
      refine (exL_sound (X := X1) (Q := Behind Q (fun a' w' => Sat β0 (mask hs 0 σ0) [] w' ∧ wpAnyH X.P .any all.toArray (NoPan Q) (fun w => Sat β0 (mask hs 0 σ0) [] w) f (la.setIfInBounds i true) a' w')) (all := all) htt hct (fun l fr' σ' hw' hk => ?_) [o] fr σ hw hs').h β a w hr1
      cases l with
      | nil =>
        refine ⟨fun β' a' w' hr' => wpList_nil ?_⟩
        have hk' : heldP σ0 σ' hs ∧ exHS tt ct X.n (gsOf all all) all (tabFrom 0 all) hs σ0 K f (i :: ls) fr' σ' := hk
        have hf' : σ.length ≤ σ'.length := hr'.fits
        have hag : ∀ i, i < σ.length → β' i = β i := hr'.agree
        have hr2 : Rep X β' fr' σ' a' w' := ⟨hr'.defers, hr'.size, hr'.knows, hr'.frwf, hr'.mem, hr'.same, fun i hi => (hag i (Nat.lt_of_lt_of_le hi hr.fits)).trans (hr.agree i hi), Nat.le_trans hr.fits hf', hr'.src⟩
        have hle' := Nat.le_trans hle hf'
        have hβ' : ∀ i, i < σ0.length → β' i = β0 i := fun i hi => (hag i (Nat.lt_of_lt_of_le hi hle)).trans (hβ i hi)
        exact ⟨hsat hr2 hle' hβ' hk'.1, ih (i :: ls) _ fr' σ' (hb.set hop.2) hw' hk'.2 β' a' w' hr2 hle' hβ' hk'.1⟩
      | cons _ _ => exact (hk : False).elim
    split at h
    · rename_i he
      have hnil : Region.ready .any all.toArray la = [] := List.eq_nil_iff_forall_not_mem.2 fun j hj => by
        obtain ⟨o, ho⟩ := (books_ready hb).1 hj
        rw [he] at ho; cases ho
      exact wpAnyH_done (Q := NoPan Q) hnil ((hK fr σ h).h β a w hr) _
    · rename_i r rs he
      split at h
      · rename_i i d v g hp
        obtain ⟨o, hm, hc, hfree⟩ := pickHd_spec hp
        obtain ⟨hd, hput, hev⟩ := calmH_spec hc
        rw [← he] at hm
        have hop := ready_op hm
        have hsp := canPut_spec hw hput
        have hap : ∀ j oj, all.toArray[j]? = some oj → j ≠ i → la.getD j true = false → (∀ e ∈ oj.after, Region.binds .any e = true → e.on ≠ i) → o.apart all.toArray oj = true := by
          intro j oj hj hne hun hno
          have hlt : j < all.length := by have := (Array.getElem?_eq_some_iff.1 hj).1; simpa using this
          exact freeT_spec hfree j oj (depsOf oj) (mem_tabFrom.2 ⟨Nat.zero_le _, by simpa using hj, rfl⟩) hne ((hb.getD_true hlt).1 hun) (fun hd => by
            obtain ⟨e, he', hb', hon⟩ := mem_depsOf.1 hd
            exact hno e he' hb' hon)
        have put : ∀ x, YieldsIf X.P all.toArray (fun w => Sat β0 (mask hs 0 σ0) [] w) o x a → v.wf σ.length → WhenIn (gsOf all all) ((d, v, g) :: fr) →
            (match (generalizing := false) g with | none => x = v.den β | some (t, p) => t ≠ d ∧ (a.tmps[t]? = some (.bool p) → x = v.den β) ∧ (a.tmps[t]? ≠ some (.bool p) → x = undef)) →
            wpAnyH X.P .any all.toArray (NoPan Q) (fun w => Sat β0 (mask hs 0 σ0) [] w) (f + 1) la a w := by
          intro x hy hv hwn hx
          refine wpAnyH_first hop.1 (Region.noSelect_spec hns) (fun c a w h => (h : False).elim) f la a w hap ((books_ready hb).2 ⟨o, hm⟩) hy (hsat hr hle hβ hh) ?_
          rw [hd]
          exact ih (i :: ls) _ ((d, v, g) :: fr) σ (hb.set hop.2) hwn h β _ w (rep_put hr hsp (fun _ _ => rfl) (Nat.le_refl _) hr.mem hv hr.src hx) hle hβ hh
        have runs : ∀ {gd : Gd} {v : FV}, Under gd a → ev tt fr gd (mask hs 0 σ) o.op = .val v → (∀ w, Sat β0 (mask hs 0 σ0) [] w → (execOp a.eval o).run X.P w = .ok (.value (v.den β)) w) ∧ v.wf σ.length := by
          intro gd v hu hv
          have hfw : ∀ e ∈ fr, e.2.1.wf (mask hs 0 σ).length := by rw [mask_length]; exact hr.frwf
          refine ⟨fun w hS => (ev_val htt hr.knows hu hfw (mask_over hS hle hβ hh hlt) hv).1, ?_⟩
          have := (ev_val htt hr.knows hu hfw (mask_sat hr.mem hs) hv).2
          rwa [mask_length] at this
        rcases hev with ⟨hgi, rfl, hev⟩ | ⟨t, p, b, hgi, htd, rfl, hev, hvw⟩
        · have hgn := guardI_no hgi
          have hwant : Region.wanted o (yielded all.toArray a.tmps) = true := by simp [Region.wanted, hgn]
          have hru := runs (gd := none) trivial hev
          exact put _ (.inl ⟨hwant, hru.1⟩) hru.2 (hw.cons fun _ _ h => by cases h) rfl
        · obtain ⟨j, hg, ht, htg, hiff, _⟩ := guardI_yes hgi
          have ha := hiff β a hr.knows
          have hwn : WhenIn (gsOf all all) ((d, v, some (t, p)) :: fr) := hw.cons (fun _ _ h => by cases h; exact htg)
          by_cases hbp : b = p
          · exact put (v.den β) (.inl ⟨(wanted_iff hg ht a).2 (ha.2 hbp), (runs (gd := some (t, p)) (ha.2 hbp) hev).1⟩) (FV.wfB_spec hvw) hwn ⟨htd, fun _ => rfl, fun hn => absurd (ha.2 hbp) hn⟩
          · refine put undef (.inr ⟨?_, rfl⟩) (FV.wfB_spec hvw) hwn ⟨htd, fun hp => absurd (ha.1 hp) hbp, fun _ => rfl⟩
            cases hww : Region.wanted o (yielded all.toArray a.tmps) with
            | false => rfl
            | true => exact absurd (ha.1 ((wanted_iff hg ht a).1 hww)) hbp
      · rename_i hp
        have hs' := allK_spec h
        rw [← he] at hs'
        have hne : Region.ready .any all.toArray la ≠ [] := fun hnil => by
          have : r ∈ readyT ls (tabFrom 0 all) := by rw [he]; exact List.mem_cons_self
          have := (books_ready hb).2 ⟨r.2, this⟩
          rw [hnil] at this; cases this
        refine ⟨fun h0 => absurd h0 hne, fun j hj => ?_⟩
        obtain ⟨o, ho⟩ := (books_ready hb).1 hj
        exact wpOp_of_list (ready_op ho).1 (step ho (hs' (j, o) ho))

def hsOk (m : Nat) : List Nat → Bool
  | [] => true
  | i :: r => match Nat.blt i m with
    | true => hsOk m r
    | false => false
theorem hsOk_spec {m : Nat} : ∀ {hs : List Nat}, hsOk m hs = true → ∀ i ∈ hs, i < m
  | [], _, i, h => by cases h
  | j :: r, h, i, hi => by
    unfold hsOk at h
    split at h
    · rename_i hlt
      rcases List.mem_cons.1 hi with rfl | hi
      · simpa [Nat.blt_eq] using hlt
      · exact hsOk_spec h i hi
    · cases h
/-- EVERY WAY through a drawn region that does not write the chunks hs: what is loaded from these comes first. -/
theorem c_waysH (htt : TTok X.P tt) (hct : CTok X.P ct) (ks hs : List Nat) {id : Nat} {ops : Array Oper} {fr : Fr} {σ : List Ch} (hns : noSel ops.toList = true) (hp : plainFr fr = true) (hh : hsOk σ.length hs = true)
    (h : forceL σ fun σ => forceL ops.toList fun all => forceL (gsOf all all) fun gs => forceL (tabFrom 0 all) fun tab => exHS tt ct X.n gs all tab hs σ (fun fr σ => keepK ks fr fun fr' => WpE X Q .normal fr' σ) all.length [] fr σ) : WpC X (.region id ops true) Q fr σ := by
  rw [forceL_eq, forceL_eq, forceL_eq, forceL_eq] at h
  refine ⟨fun β a w hr => ?_⟩
  have hr1 : Rep X β fr σ a { w with drawn := w.drawn + 1 } := ⟨hr.defers, hr.size, hr.knows, hr.frwf, hr.mem.grow (fun _ _ => rfl), hr.same.trans ⟨rfl, rfl, rfl, Nat.le_refl _⟩, hr.agree, hr.fits, hr.src⟩
  have h1 := exHS_sound (X := X) (Q := Only Q) (σ0 := σ) (β0 := β) htt hct (fun fr' σ' hk => by
    rw [keepK_eq] at hk
    exact ⟨fun β a w hr => (hk.h β a w (hr.keep ks))⟩) (noSel_spec hns) (hsOk_spec hh) (by
      have := (mask_sat hr.mem hs).wf
      rwa [mask_length] at this) ops.toList.length [] _ fr σ (Books.init _) (plainFr_spec hp) h β a _ hr1 (Nat.le_refl _) (fun _ _ => rfl) (heldP_self σ hs)
  refine cd_any (TTok.mo htt) (noSel_def hns) ?_
  have e : NoPan (Only Q) = Only Q := by funext e a w; cases e <;> rfl
  rw [e] at h1
  simpa using wpAny_of_held _ _ _ _ h1
end
end Go.Sx

namespace Go.Sx
open Go

theorem append_keep {P : Program} {β : Nat → Bd} {σ : List Ch} {φ : Heap} {w : World} (hm : Sat β σ φ w)
    (t tx ty e : TypeId) (ie : TypeInfo) (z : Value) (ht : P.underlying t = some (.slice e)) (hi : P.info? e = some ie) (hz : ie.zero = some z)
    {i cap n : Nat} {xs : List Value} (hc : σ[i]? = some (.own e ie.size cap xs)) (hn : xs.length = n * ie.size)
    (x : Value) (m : Nat) (news : List Value) (hs : Src P ie.size tx x m news w) (h63 : n + m ≤ maxLen) (hb : (n + m) * ie.bytes ≤ 140737488355328)
    {v : Value} {w' : World} (hrun : (Builtin.append_ #[t, tx] ty #[TV.den β (.s (.sl i 0 n cap)), x]).run P w = .ok v w') : (Ch.view xs).sat β (β i) w' := by
  intro j u hu
  obtain ⟨hnil, hcu⟩ := Ch.cells_at (hm.sat i _ hc) (xs := xs) rfl j u hu
  refine ⟨hnil, ?_⟩
  rcases hm.sat i _ hc with ⟨hnil', rfl, rfl⟩ | ⟨⟨_, ho, hcm⟩, sp, hl, hcell⟩
  · simp at hu
  · have hden : TV.den β (.s (.sl i 0 n cap)) = .slice (some ⟨(β i).g, 0, none⟩) n cap := by simp [TV.den, SV.den, hnil, ho]
    have h63' : ((n + m : Nat) : Int) ≤ 9223372036854775807 := by simp only [maxLen] at h63; omega
    have hnl := hs.newsLen
    have hju : j < xs.length := (List.getElem?_eq_some_iff.1 hu).1
    rw [hden] at hrun
    rcases Nat.lt_or_ge cap (n + m) with hg | hroom
    · have hold : (Builtin.firstCells ie.size n (.slice (some ⟨(β i).g, 0, none⟩) n cap)).run P w.drew = .ok xs.toArray w.drew :=
        run_firstCells_some w.drew ie.size n _ n cap xs hn (fun j v hv => by
          rw [Addr.add_lit, Nat.zero_add, World.cell?_drew, cell_blk hcell, List.getElem?_append_left (List.getElem?_eq_some_iff.1 hv).1]; exact hv)
      have hr := run_append_grow_src w t tx ty e ie z ht hi hz (some ⟨(β i).g, 0, none⟩) n cap xs hold x m news hs hg h63' (growslice_fits hg hb)
      rw [hr] at hrun
      cases hrun
      have hlt : (β i).g < w.drew.heap.size := by
        have : w.drew.heap = w.heap := rfl
        rw [this]
        exact (Array.getElem?_eq_some_iff.1 hcell).1
      have hkeep : ∀ o : Obj, (w.drew.alloc o).heap[(β i).g]? = w.heap[(β i).g]? := fun o => by
        rw [RowKit.Below.heap_alloc w.drew _ _ hlt]; rfl
      rw [cell_blk (by rw [hkeep]; exact hcell), ho, Nat.zero_add, List.getElem?_append_left hju]
      exact hu
    · have hroom' : (n + m) * ie.size ≤ cap * ie.size := Nat.mul_le_mul_right _ hroom
      rw [Nat.add_mul] at hroom'
      have hr := append_room w t tx ty e ie ht hi (β i).g n cap _ hcell x m news hs hroom (by simp only [List.size_toArray]; omega)
      rw [hr] at hrun
      cases hrun
      have hcells : ((xs ++ sp).take (n * ie.size) ++ news ++ (xs ++ sp).drop (n * ie.size + news.length)) = xs ++ (news ++ sp.drop news.length) := by
        rw [← hn]
        simp [List.drop_append]
      have hrow := setRow_heap w (β i).g _ ((xs ++ (news ++ sp.drop news.length)).toArray) e (0, 0) hcell
      simp only [hcells]
      rw [cell_blk hrow, ho, Nat.zero_add, List.getElem?_append_left hju]
      exact hu

theorem eff_append2 {P : Program} {F : Nat → Prop} {β : Nat → Bd} {σ : List Ch} {φ : Heap} {w : World} (hm : Sat β σ φ w) (hF : ∀ (l : Nat) (d : Ch), σ[l]? = some d → ∀ g, g ∈ d.rfoot (β l) → F g ∨ w.heap.size ≤ g)
    (t tx ty e : TypeId) (ie : TypeInfo) (z : Value) (ht : P.underlying t = some (.slice e)) (hi : P.info? e = some ie) (hz : ie.zero = some z) (hzs : z.cells.size = ie.size)
    {i cap n : Nat} {xs : List Value} (hc : σ[i]? = some (.own e ie.size cap xs)) (hn : xs.length = n * ie.size)
    (x : Value) (m : Nat) (news : List Value) (hs : Src P ie.size tx x m news w) (h63 : n + m ≤ maxLen) (hb : (n + m) * ie.bytes ≤ 140737488355328) (hpos : 0 < ie.size) :
    ∃ cap' β' w', n + m ≤ cap' ∧ cap' ≤ maxLen ∧ (Builtin.append_ #[t, tx] ty #[TV.den β (.s (.sl i 0 n cap)), x]).run P w = .ok (FV.den β' (.t (.s (.sl σ.length 0 (n + m) cap')))) w' ∧
      Eff P F β σ φ w (.t (.s (.sl σ.length 0 (n + m) cap'))) β' (σ.set i (.view xs) ++ [.view (xs ++ news)]) w' := by
  obtain ⟨c', β', w', g1, g2, g3, E⟩ := eff_append (P := P) (F := F) hm hF t tx ty e ie z ht hi hz hzs hc hn x m news hs h63 hb hpos
  have hkeep := append_keep hm t tx ty e ie z ht hi hz hc hn x m news hs h63 hb g3
  refine ⟨c', β', w', g1, g2, g3, ?_⟩
  have hlt := (List.getElem?_eq_some_iff.1 hc).1
  have hβi := E.ext i hlt
  -- what is where
  have kinds : ∀ (j : Nat) (d : Ch), (σ.set i (.view xs) ++ [.view (xs ++ news)])[j]? = some d → (j = i ∧ d = .view xs) ∨ (j = σ.length ∧ d = .view (xs ++ news)) ∨ (j < σ.length ∧ j ≠ i ∧ σ[j]? = some d) := by
    intro j d hd
    rcases append_get hd with ⟨h1, h2⟩ | ⟨h1, h2⟩
    · rw [List.length_set] at h1
      by_cases hij : i = j
      · subst hij; rw [List.getElem?_set_self hlt] at h2; cases h2; exact .inl ⟨rfl, rfl⟩
      · rw [List.getElem?_set_ne hij] at h2; exact .inr (.inr ⟨h1, fun e => hij e.symm, h2⟩)
    · rw [List.length_set] at h1
      exact .inr (.inl ⟨h1, h2⟩)
  have hnew : (σ.set i .dead ++ [.own e ie.size c' (xs ++ news)])[σ.length]? = some (.own e ie.size c' (xs ++ news)) := by
    rw [List.getElem?_append_right (by simp)]; simp
  have hold : ∀ (j : Nat) (d : Ch), j < σ.length → j ≠ i → σ[j]? = some d → (σ.set i .dead ++ [.own e ie.size c' (xs ++ news)])[j]? = some d := by
    intro j d h1 h2 h3
    rw [List.getElem?_append_left (by simpa using h1), List.getElem?_set_ne (fun e => h2 e.symm)]; exact h3
  have rf_view : ∀ (b : Bd) (ys : List Value) (cp : Nat) (s : Ch.sat β' b w' (.own e ie.size cp ys) ∨ Ch.sat β b w (.own e ie.size cp ys)) (g : Nat), g ∈ (Ch.view ys).rfoot b → g ∈ (Ch.own e ie.size cp ys).foot b := by
    intro b ys cp s g hg
    cases ys with
    | nil => simp [Ch.rfoot, Ch.foot] at hg
    | cons y ys =>
      simp [Ch.rfoot] at hg; subst hg
      have hb : b.nil = false := by
        rcases s with s | s
        · exact (Ch.cells_at s (xs := y :: ys) rfl 0 y rfl).1
        · exact (Ch.cells_at s (xs := y :: ys) rfl 0 y rfl).1
      simp [Ch.foot, hb]
  have rfi : ∀ g, g ∈ (Ch.view xs).rfoot (β' i) → g ∈ (Ch.own e ie.size cap xs).foot (β i) := fun g hg => by
    rw [hβi] at hg; exact rf_view _ _ cap (.inr (hm.sat i _ hc)) g hg
  have rfn : ∀ g, g ∈ (Ch.view (xs ++ news)).rfoot (β' σ.length) → g ∈ (Ch.own e ie.size c' (xs ++ news)).foot (β' σ.length) := fun g hg =>
    rf_view _ _ c' (.inl (E.sat.sat _ _ hnew)) g hg
  refine ⟨E.ext, by simp, ⟨?_, ?_, ?_, E.sat.frame, ?_⟩, E.same, by simp [FV.wf, TV.wf, SV.wf], ?_⟩
  · intro a b c d ha hb' hab g hg hg'
    rcases kinds a c ha with ⟨rfl, rfl⟩ | ⟨rfl, rfl⟩ | ⟨a1, a2, a3⟩
    · simp [Ch.foot] at hg
    · simp [Ch.foot] at hg
    · rcases kinds b d hb' with ⟨rfl, rfl⟩ | ⟨rfl, rfl⟩ | ⟨b1, b2, b3⟩
      · rw [E.ext a a1] at hg
        exact hm.disj a _ c _ a3 hc a2 g hg (foot_rfoot (rfi g hg'))
      · exact E.sat.disj a σ.length c _ (hold a c a1 a2 a3) hnew hab g hg (foot_rfoot (rfn g hg'))
      · exact E.sat.disj a b c d (hold a c a1 a2 a3) (hold b d b1 b2 b3) hab g hg hg'
  · intro a c ha g hg
    rcases kinds a c ha with ⟨rfl, rfl⟩ | ⟨rfl, rfl⟩ | ⟨a1, a2, a3⟩
    · simp [Ch.foot] at hg
    · simp [Ch.foot] at hg
    · exact E.sat.off a c (hold a c a1 a2 a3) g hg
  · intro a c ha
    rcases kinds a c ha with ⟨rfl, rfl⟩ | ⟨rfl, rfl⟩ | ⟨a1, a2, a3⟩
    · rw [hβi]; exact hkeep
    · exact fun j v hv => Ch.cells_at (E.sat.sat _ _ hnew) rfl j v hv
    · exact E.sat.sat a c (hold a c a1 a2 a3)
  · intro c hcm
    have hlen : (σ.set i (.view xs) ++ [Ch.view (xs ++ news)]).length = (σ.set i .dead ++ [Ch.own e ie.size c' (xs ++ news)]).length := by simp
    rw [hlen]
    rcases List.mem_append.1 hcm with h | h
    · rcases List.mem_or_eq_of_mem_set h with h | rfl
      · obtain ⟨j, hj⟩ := List.getElem?_of_mem h
        by_cases hji : j = i
        · subst hji; rw [hc] at hj; cases hj; exact trivial
        · exact E.sat.wf c (List.mem_of_getElem? (hold j c (List.getElem?_eq_some_iff.1 hj).1 hji hj))
      · exact trivial
    · rw [List.mem_singleton.1 h]; exact trivial
  · intro a c ha g hg
    rcases kinds a c ha with ⟨rfl, rfl⟩ | ⟨rfl, rfl⟩ | ⟨a1, a2, a3⟩
    · exact hF _ _ hc g (foot_rfoot (rfi g hg))
    · exact E.src σ.length _ hnew g (foot_rfoot (rfn g hg))
    · exact E.src a c (hold a c a1 a2 a3) g hg

section
variable {X : Cx} {tt : TT} {all rest : List Oper} {Q : Exit → Act → World → Prop} {fr : Fr} {σ : List Ch} {o : Oper} {d : Nat}
theorem l_append2 (htt : TTok X.P tt) {c : Call} {x y : Operand} {t1 t2 i n cap e sz by_ m : Nat} {ti te : TI} {yv : TV} {xs news : List Value} {p : Prop}
    (ho : o.op = .call c) (hcal : c.callee = .builtin .append) (ha : c.args.toList = [x, y]) (hta : c.argTypes.toList = [t1, t2]) (hd : o.dst = some d) (hg : o.guard = none)
    (hput : canPut X.n (gsOf all all) d fr = true) (hwhen : whenB (gsOf all all) fr = true)
    (hx : opd fr none x = some (.s (.sl i 0 n cap))) (hy : opd fr none y = some yv) (hti : tlook t1 tt = some ti) (hkd : ti.kd = .slice e sz by_) (hte : tlook e tt = some te) (hsty : srcTy tt t2 yv = true)
    (hz1 : te.zv.cells.size = sz) (hsz : te.size = sz) (hz2 : 0 < sz) (hc : σ[i]? = some (.own e sz cap xs)) (hsrc : srcOf σ i sz yv = some (m, news, p))
    (hp : p) (hn : xs.length = n * sz) (h1 : ∀ u ∈ news, u.oneCell' = true) (h63 : n + m ≤ maxLen) (hb : (n + m) * by_ ≤ 140737488355328)
    (h : ∀ c' : Nat, n + m ≤ c' → c' ≤ maxLen → forceL (σ.set i (.view xs) ++ [.view (xs ++ news)]) fun σ' => WpL X all Q rest ((d, .t (.s (.sl σ.length 0 (n + m) c')), none) :: fr) σ') : WpL X all Q (o :: rest) fr σ := by
  refine wpL_eff hd (canPut_spec (whenB_spec hwhen) hput) (fun β a w hr => by simp [Region.wanted, hg]) (fun β a w hr => ?_)
  obtain ⟨ie, hu, hi, hsz', hbb⟩ := kd_slice ((tlook_ok htt hti).kd.trans hkd)
  obtain ⟨ie', hi', hs', hzz⟩ := info_of (tlook_ok htt hte)
  rw [hi] at hi'; cases hi'
  subst hsz'
  subst hbb
  have ha' : c.args = #[x, y] := by apply Array.ext'; simpa using ha
  have ht' : c.argTypes = #[t1, t2] := by apply Array.ext'; simpa using hta
  have hvx := opd_sound (g := none) hr.knows trivial hx
  have hvy := opd_sound (g := none) hr.knows trivial hy
  have hS := srcOf_src htt hr.mem hsrc hsty hp h1
  obtain ⟨c', β', w', g1, g2, g3, g4⟩ := eff_append2 (P := X.P) (F := fun g => X.F g ∨ X.w0.heap.size ≤ g) hr.mem (rep_src hr) t1 t2 o.type e ie te.zv hu hi hzz hz1 hc hn _ m news hS h63 hb hz2
  have hk := h c' g1 g2
  rw [forceL_eq] at hk
  refine ⟨_, _, β', w', ?_, g4, hk⟩
  unfold execOp
  rw [ho]
  rw [← hvx, ← hvy] at g3
  simp [resolve, hcal, ha', ht', invoke, builtin, g3]
end
end Go.Sx
