/- An argument that is a slice of structs of numbers and truths, some of them in structs of their own. -/
import Derived.Test.YtckbmpoomamenaaSxC
import Derived.Test.YtckbmpoomamenaaWalkJ
import Derived.Test.YtckbmpoomamenaaWalkD
import Derived.Test.YtckbmpoomamenaaWalkI

namespace Go.Sx
open Go Go.ChangeShapes Go.WideShapes Go.ChangeAt Go.RowKit Go.Deep

/-- A field: one cell, or a struct of such. -/
inductive FG where
  | c (k : FK)
  | s (ks : List FK)
def FG.ks : FG → List FK
  | .c k => [k]
  | .s ks => ks
def flatG : List FG → List FK
  | [] => []
  | g :: gs => g.ks ++ flatG gs
def FG.is (P : Program) (t : TypeId) : FG → Prop
  | .c k => P.cellsOf t = 1 ∧ k.is P t
  | .s ks => P.cellsOf t = ks.length ∧ ∃ fs, P.underlying t = some (.struct fs) ∧ tabOk P 0 fs.toList ks
def tabOkG (P : Program) : Nat → List Field → List FG → Prop
  | _, [], [] => True
  | i, f :: fs, g :: gs => f.offset = i ∧ g.is P f.type ∧ tabOkG P (i + g.ks.length) fs gs
  | _, _, _ => False
theorem KOK.append : ∀ {a b : List FK} {x y : List Value}, KOK a x → KOK b y → KOK (a ++ b) (x ++ y)
  | [], _, [], _, _, h => h
  | _ :: _, _, _ :: _, _, h1, h2 => ⟨h1.1, KOK.append h1.2 h2⟩
  | [], _, _ :: _, _, h, _ => h.elim
  | _ :: _, _, [], _, h, _ => h.elim
theorem FG.is_cells {P : Program} {t : TypeId} {g : FG} (h : g.is P t) : P.cellsOf t = g.ks.length := by
  cases g with
  | c k => exact h.1
  | s ks => exact h.1
theorem tabG_lo {P : Program} : ∀ {fs : List Field} {gs : List FG} {i : Nat}, tabOkG P i fs gs → ∀ f ∈ fs, i ≤ f.offset
  | [], _, _, _, f, hf => by simp at hf
  | g :: fs, k :: gs, i, h, f, hf => by
    rcases List.mem_cons.1 hf with rfl | hf
    · exact Nat.le_of_eq h.1.symm
    · have := tabG_lo h.2.2 f hf; omega
  | _ :: _, [], _, h, _, _ => h.elim
section
variable {H : Type} {enc : TypeId × Value → H} {P : Program} {w : World} {base : Nat} {spare : Nat → Bool} {held : Bool}
theorem one_kind {n : Nat} {t : TypeId} {k : FK} {v : Value} {y : DataW H × List MemPlace} (hk : k.is P t) (hy : DataW.trod enc P w base spare held n t [v] = some y) : k.ok v := by
  cases k with
  | int K =>
    obtain ⟨m, he, _, hw⟩ := DataW.trod_int hk hy
    simp at he
    exact ⟨m, he, hw⟩
  | bool =>
    obtain ⟨b, he, _⟩ := DataW.trod_bool hk hy
    simp at he
    exact ⟨b, he⟩
theorem struct_kinds {n : Nat} {t : TypeId} {fs : Array Field} {ks : List FK} {cs : List Value} {y : DataW H × List MemPlace} (he : P.underlying t = some (.struct fs)) (hk : tabOk P 0 fs.toList ks) (hlen : cs.length = ks.length)
    (h2 : DataW.trod enc P w base spare held n t cs = some y) : KOK ks cs := by
  obtain ⟨xs, k, _, _, _, hxl, hf⟩ := DataW.trod_struct he h2
  refine tab_kinds (enc := enc) (w := w) (base := base) (spare := spare) (held := held) (n := k) hk hlen (fun j f hj => ?_)
  have ho := tab_off hk j f hj
  have hj' : j < xs.length := by
    have := (List.getElem?_eq_some_iff.1 hj).1
    rw [hxl]; simpa using this
  have := hf j f (by simpa using hj)
  rw [List.getElem?_eq_getElem hj'] at this
  refine ⟨xs[j], ?_⟩
  rw [← this, ho.1, ho.2, Nat.zero_add]
  congr 1
  cases hcj : cs[j]? with
  | none => rw [List.getElem?_eq_none_iff] at hcj; rw [List.drop_eq_nil_of_le hcj]; rfl
  | some v =>
    have hjl := (List.getElem?_eq_some_iff.1 hcj).1
    rw [List.drop_eq_getElem_cons hjl]
    have := (List.getElem?_eq_some_iff.1 hcj).2
    simp [this]
theorem tabG_kinds {n : Nat} : ∀ {fs : List Field} {gs : List FG} {cs : List Value} {i : Nat}, tabOkG P i fs gs → cs.length = (flatG gs).length →
    (∀ (j : Nat) (f : Field), fs[j]? = some f → ∃ y, DataW.trod enc P w base spare held n f.type ((cs.drop (f.offset - i)).take (P.cellsOf f.type)) = some y) → KOK (flatG gs) cs
  | [], [], cs, i, _, hl, _ => by
    cases cs with
    | nil => trivial
    | cons _ _ => simp [flatG] at hl
  | f :: fs, g :: gs, cs, i, h, hl, hf => by
    obtain ⟨ho, hg, ht⟩ := h
    have hl' : cs.length = g.ks.length + (flatG gs).length := by rw [hl]; exact List.length_append
    obtain ⟨y, hy⟩ := hf 0 f rfl
    rw [ho, Nat.sub_self, List.drop_zero, FG.is_cells hg] at hy
    have h1 : KOK g.ks (cs.take g.ks.length) := by
      cases g with
      | c k =>
        match cs, hl' with
        | v :: cs, _ => exact ⟨one_kind hg.2 hy, trivial⟩
        | [], h => simp [FG.ks] at h; omega
      | s ks =>
        obtain ⟨fs2, hu, hk⟩ := hg.2
        exact struct_kinds hu hk (by show (cs.take ks.length).length = _; rw [List.length_take]; have : cs.length = ks.length + (flatG gs).length := hl'; omega) hy
    have h2 : KOK (flatG gs) (cs.drop g.ks.length) := by
      refine tabG_kinds (n := n) ht (by rw [List.length_drop]; omega) (fun j q hq => ?_)
      obtain ⟨y, hy⟩ := hf (j + 1) q (by simpa using hq)
      refine ⟨y, ?_⟩
      have hlo := tabG_lo ht q (List.mem_of_getElem? hq)
      rw [← hy, List.drop_drop]
      congr 3
      omega
    have h3 := h1.append h2
    rw [List.take_append_drop] at h3
    exact h3
  | [], _ :: _, _, _, h, _, _ => h.elim
  | _ :: _, [], _, _, h, _, _ => h.elim
/-- OPENING a slice of such structs. -/
theorem open_tabG {t e : TypeId} {fs : Array Field} {gs : List FG} {r : Reach} {base2 : Nat} {a : Option Addr} {len cap fuel : Nat} {x : DataW H × List MemPlace} (ht : P.underlying t = some (.slice e)) (he : P.underlying e = some (.struct fs))
    (hk : tabOkG P 0 fs.toList gs) (hn : P.cellsOf e = (flatG gs).length) (hv : Value.okWide P w r base2 t (.slice a len cap))
    (h : DataW.trod enc P w base spare held fuel t (Value.slice a len cap).cells.toList = some x) : ∃ rows, (∀ q ∈ rows, KOK (flatG gs) q) ∧ IsTab (flatG gs).length w a len cap rows := by
  rcases open_slice ht h with ⟨hcs, _⟩ | ⟨y, ln, c, m, n, D, Pl, hcs, _, hl, hm, hmm, _, hx⟩
  · simp [Value.cells] at hcs
    obtain ⟨rfl, rfl, rfl⟩ := hcs
    exact ⟨[], fun q hq => (by cases hq), rfl, Nat.le_refl _, Nat.zero_le _, fun _ => ⟨rfl, rfl⟩, fun x hx => (by cases hx), fun q hq => (by cases hq), fun x hx => (by cases hx)⟩
  · simp [Value.cells] at hcs
    obtain ⟨rfl, rfl, rfl⟩ := hcs
    have hlm : len ≤ m := by rw [hmm]; split <;> omega
    have each : ∀ i, i < len → ∃ cs, w.cells? base (y.add (i * (flatG gs).length)) (flatG gs).length = some cs ∧ KOK (flatG gs) cs := by
      intro i hi
      obtain ⟨cs', h1, h2⟩ := hx i (by omega)
      rw [hn] at h1
      refine ⟨cs', h1, ?_⟩
      obtain ⟨_, hlen, _⟩ := World.cells?_some h1
      obtain ⟨xs, k, _, _, _, hxl, hf⟩ := DataW.trod_struct he h2
      refine tabG_kinds (enc := enc) (w := w) (base := base) (spare := spare) (held := held) (n := k) hk hlen (fun j f hj => ?_)
      have hj' : j < xs.length := by
        have := (List.getElem?_eq_some_iff.1 hj).1
        rw [hxl]; simpa using this
      have := hf j f (by simpa using hj)
      rw [List.getElem?_eq_getElem hj'] at this
      exact ⟨xs[j], by rw [← this]; rfl⟩
    obtain ⟨V, hV⟩ := choose_lt each
    refine ⟨(List.range len).map V, fun q hq => ?_, by simp, hl, hm, fun hx => (by cases hx), fun z hz => (by cases hz; exact okWide_spot ht hv), fun q hq => ?_, fun z hz i j hi hj => ?_⟩
    · obtain ⟨i, hi, rfl⟩ := List.mem_map.1 hq
      exact (hV i (by simpa using hi)).2
    · obtain ⟨i, hi, rfl⟩ := List.mem_map.1 hq
      exact (hV i (by simpa using hi)).2.length
    · cases hz
      have hi' : i < len := by simpa using hi
      obtain ⟨_, hlen, hcell⟩ := World.cells?_some (hV i hi').1
      have := hcell j hj
      rw [Go.Deep.add_add] at this
      simp only [List.getElem_map, List.getElem_range]
      rw [this]
end
end Go.Sx

namespace Go.Proofs
open Go Go.Sx
set_option maxRecDepth 10000
theorem seg_b (m : Ram) : seg (bytesI m.l) 0 (m.l.length * 1) = bytesI m.l := by rw [Nat.mul_one]; exact seg_all m
theorem ok_upd {k k' : Core} (h : k.ok) (e1 : I32 k'.a) (e2 : I32 k'.b) (e3 : I32 k'.c) (e4 : I32 k'.iptr) (e5 : I32 k'.wptr) (e6 : -9223372036854775808 ≤ k'.pri ∧ k'.pri ≤ 9223372036854775807) (e7 : I32 k'.f0) (e8 : I32 k'.f1) (e9 : I32 k'.b0) (e10 : I32 k'.b1) (e11 : I32 k'.slice)
    (g1 : k'.t0 = k.t0) (g2 : k'.t1 = k.t1) (g3 : k'.k0 = k.k0) (g4 : k'.k1 = k.k1) (g5 : k'.ticks = k.ticks) (g6 : I32 k'.sa) (g7 : I32 k'.sb) (g8 : I32 k'.sc) (g9 : I32 k'.siptr) (g10 : I32 k'.swptr) (g11 : I32 k'.sslice) : k'.ok :=
  ⟨e1, e2, e3, e4, e5, e6, e7, e8, e9, e10, by rw [g1]; exact h.t0, by rw [g2]; exact h.t1, by rw [g3]; exact h.k0, by rw [g4]; exact h.k1, by rw [g5]; exact h.ticks, e11, g6, g7, g8, g9, g10, g11⟩
theorem setF_okU {k : Core} (h : k.ok) (o : Bool) {w : Int} (hw : I32 w) : (k.setF o w).ok := by
  cases o
  · exact ok_upd (k' := k.setF false w) h h.a h.b h.c h.iptr h.wptr h.pri hw h.f1 h.b0 h.b1 h.slice rfl rfl rfl rfl rfl h.sa h.sb h.sc h.siptr h.swptr h.sslice
  · exact ok_upd (k' := k.setF true w) h h.a h.b h.c h.iptr h.wptr h.pri h.f0 hw h.b0 h.b1 h.slice rfl rfl rfl rfl rfl h.sa h.sb h.sc h.siptr h.swptr h.sslice
theorem setB_okU {k : Core} (h : k.ok) (o : Bool) {w : Int} (hw : I32 w) : (k.setB o w).ok := by
  cases o
  · exact ok_upd (k' := k.setB false w) h h.a h.b h.c h.iptr h.wptr h.pri h.f0 h.f1 hw h.b1 h.slice rfl rfl rfl rfl rfl h.sa h.sb h.sc h.siptr h.swptr h.sslice
  · exact ok_upd (k' := k.setB true w) h h.a h.b h.c h.iptr h.wptr h.pri h.f0 h.f1 h.b0 hw h.slice rfl rfl rfl rfl rfl h.sa h.sb h.sc h.siptr h.swptr h.sslice
theorem zero_ok : Core.zero.ok := by constructor <;> exact ⟨by decide, by decide⟩
theorem appR_ok {k : Core} {m : Ram} {d : Int} (h : k.ok) (hd : I32 d) : (appR k m d).1.ok := by
  unfold appR
  cases (bif !validB m (wsp d) then true else bif !(k.fr (odd d) == NP) then !validB m (k.bk (odd d)) else false)
  · cases (k.fr (odd d) == NP)
    · exact setB_okU h _ (wsp_I32 hd)
    · exact setB_okU (setF_okU h _ (wsp_I32 hd)) _ (wsp_I32 hd)
  · exact zero_ok
theorem staR_ok {k : Core} {m : Ram} {p : Int} (h : k.ok) (hp : p = 0 ∨ p = 1) : (staR k m p).1.ok := by
  unfold staR
  have ht := takR_ok (m := m) (p := p) h
  cases ((takR k m p).2.2 != 0)
  · have hn := nobody_ok ht.1
    have hpp : -9223372036854775808 ≤ p ∧ p ≤ 9223372036854775807 := by omega
    exact ok_upd (k' := { (takR k m p).1.nobody with wptr := (takR k m p).2.1, iptr := m.word (IntKind.i32.wrap ((takR k m p).2.1 + -4)), pri := p, busy := true }) hn hn.a hn.b hn.c (word_I32 _ _) ht.2 hpp hn.f0 hn.f1 hn.b0 hn.b1 hn.slice rfl rfl rfl rfl rfl hn.sa hn.sb hn.sc hn.siptr hn.swptr hn.sslice
  · exact zero_ok
theorem res_ok {k : Core} (h : k.ok) : k.res.ok := by
  have h0 : I32 0 := by unfold I32; omega
  exact ok_upd (k' := k.res) h h.sa h.sb h.sc h.siptr h.swptr ⟨by show (-9223372036854775808 : Int) ≤ 1; decide, by show (1 : Int) ≤ 9223372036854775807; decide⟩ h.f0 h.f1 h.b0 h.b1 h.sslice rfl rfl rfl rfl rfl h0 h0 h0 h0 h0 h0
theorem setR_ok {k : Core} {m : Ram} (h : k.ok) : (setR k m).1.ok := by
  unfold setR
  cases (!priB k.pri)
  · cases k.halted
    · cases (bif bif k.busy then k.pri == 1 else false then k.high else false)
      · cases k.busy
        · cases k.high
          · cases k.sis
            · cases (!(k.f1 == NP))
              · exact h
              · exact staR_ok h (.inr rfl)
            · exact res_ok h
          · exact staR_ok h (.inl rfl)
        · exact h
      · exact staR_ok (sav_ok h) (.inl rfl)
    · exact h
  · exact zero_ok
theorem sliR_ok {k : Core} {m : Ram} (h : k.ok) : (sliR k m).1.ok := by
  unfold sliR
  cases (!priB k.pri)
  · cases (bif bif bif !k.busy then true else k.pri == 0 then true else decide (k.slice < 64) then true else k.f1 == NP)
    · cases (bif !validB m k.wptr then true else !validB m k.b1)
      · exact appR_ok (waitK_ok h) (I32_or _ _)
      · exact zero_ok
    · exact h
  · exact zero_ok
theorem exeR_ok {k : Core} {m : Ram} {fn n : Int} (h : k.ok) : (exeR k m fn n).1.ok := by
  unfold exeR
  cases (!priB k.pri)
  · cases (!mineB fn n)
    · cases (!k.busy)
      · show (opR k m n).1.ok
        unfold opR
        cases (n == 13)
        · cases (n == 3)
          · cases (n == 57)
            · cases (n == 21)
              · cases (n == 85)
                · exact ok_upd (k' := ldpK k) h (I32_wrap _) h.a h.b h.iptr h.wptr h.pri h.f0 h.f1 h.b0 h.b1 h.slice rfl rfl rfl rfl rfl h.sa h.sb h.sc h.siptr h.swptr h.sslice
                · show (steR k m).1.ok
                  unfold steR
                  cases k.err
                  · exact h
                  · exact waitK_ok h
              · exact waitK_ok h
            · exact appR_ok (clear_ok h) h.a
          · show (enpR k m).1.ok
            unfold enpR
            cases (bif !validB m k.a then true else m.err (IntKind.i32.wrap (k.a + 4)) != 0)
            · cases (m.word (IntKind.i32.wrap (k.a + 4)) != 1)
              · have hn := clear_ok h
                exact ok_upd (k := k.clear) hn hn.a hn.b hn.c (word_I32 _ _) h.a hn.pri hn.f0 hn.f1 hn.b0 hn.b1 hn.slice rfl rfl rfl rfl rfl hn.sa hn.sb hn.sc hn.siptr hn.swptr hn.sslice
              · exact nobody_ok h
            · exact zero_ok
        · show (stpR k m).1.ok
          unfold stpR
          cases (bif !validB m k.a then true else bif !(k.fr (k.pri == 1) == NP) then !validB m (k.bk (k.pri == 1)) else false)
          · exact appR_ok (clear_ok h) (I32_or _ _)
          · exact zero_ok
      · exact zero_ok
    · exact zero_ok
  · exact zero_ok
theorem queL_len : ∀ (f : Nat) (m : Ram) (b w : Int) (L : List Int), (queL f m b w L).1.length ≤ L.length + f
  | 0, m, b, w, L => by rw [queL]; exact Nat.zero_le _
  | f + 1, m, b, w, L => by
    rw [queL]
    cases (bif !validB m w then true else L.length == 1024)
    · cases (w == b)
      · have := queL_len f m b (m.word (IntKind.i32.wrap (w + -8))) (L ++ [w])
        rw [List.length_append, List.length_singleton] at this
        rw [cond_false, cond_false]; omega
      · rw [cond_false, cond_true, List.length_append, List.length_singleton]; omega
    · rw [cond_true]; exact Nat.zero_le _
theorem queR_len (k : Core) (m : Ram) (p : Int) : (queR k m p).1.length ≤ 1025 := by
  unfold queR
  cases (!priB p)
  · cases (k.fr (p == 1) == NP)
    · have := queL_len queN m (k.bk (p == 1)) (k.fr (p == 1)) []
      have h2 := queN_eq
      rw [cond_false, cond_false]
      rw [List.length_nil] at this
      omega
    · exact Nat.zero_le _
  · exact Nat.zero_le _
theorem told_n {K : IntKind} {a b : Int} {β : Nat → Bd} (h : a = b) : (FV.t (.s (.int K b))).den β = (FV.t (.s (.int K a))).den β := by rw [h]
theorem Same_b (a b : List Int) (ca cb : Nat) : Con Try.prog f_r03_Same [.s (.sl 0 0 a.length ca), .s (.sl 1 0 b.length cb)] [.view (bytesI a), .view (bytesI b)] (.ret (.t (.s (.bool (sameB a b)))) [.view (bytesI a), .view (bytesI b)]) := by
  intro K hK
  refine enter fn_r03_Same rfl nt_r03_Same rfl rfl (fun φ w0 β0 F => ?_)
  refine c_run tt_ok (ct := []) trivial k_r03_Same [] 60 (by kernel_rfl) ?_
  refine ⟨a, ⟨by rw [seg_bytesI, List.drop_zero, List.take_of_length_le (by simp)]; rfl, rfl⟩, b, ⟨by rw [seg_bytesI, List.drop_zero, List.take_of_length_le (by simp)]; rfl, rfl⟩, ?_⟩
  exact fin_k tt_ok (rs := rs_r03_Same) rfl rfl hK [0, 1] rfl rfl rfl rfl rfl rfl
def rdBytes : List RA → (Prop → Prop) → (FV → Prop) → Option Prop
  | [.row xs n _, .row ys n' _], ask, k => some (∃ p : List Int × List Int, ask (xs = bytesI p.1 ∧ n = p.1.length ∧ ys = bytesI p.2 ∧ n' = p.2.length) ∧ k (.t (.s (.bool (sameB p.1 p.2)))))
  | _, _, _ => none
theorem re_bytes : REok Try.prog f_r03_Same rdBytes := ⟨cal_r03_Same, fun args ask k R h hR => by
  unfold rdBytes at h
  split at h
  · cases h
    obtain ⟨⟨A, B⟩, h1, h2⟩ := hR
    refine ⟨_, h2, rfl, fun hp => ?_⟩
    obtain ⟨e1, e2, e3, e4⟩ := hp _ h1
    dsimp only at e1 e2 e3 e4
    subst e1; subst e2; subst e3; subst e4
    exact ⟨fun β φ w hs => (((Same_b A B _ _) (fun v σ => v = .t (.s (.bool (sameB A B))) ∧ σ = [.view (bytesI A), .view (bytesI B)]) ⟨rfl, rfl⟩).h β φ w hs).mono fun _ _ ⟨x, β', ⟨q1, q2⟩, hr⟩ => by
      obtain ⟨v, σ⟩ := x
      dsimp only at q1 q2
      subst q1; subst q2
      exact ⟨(), β', trivial, hr⟩⟩
  · cases h⟩
set_option maxHeartbeats 1000000 in
theorem changed_c (k : Core) (a v : Int) (hok : k.ok) (ha : I32 a) (hv : I32 v) : Con Try.prog f_l29_changed [.agg k.sv, .s (.int .i32 a), .s (.int .i32 v)] [] (.all Core (fun k' => k'.ok) fun k' => .ret (.t (.agg k'.sv)) []) := by
  intro K hK
  obtain ⟨z, hz, hz2⟩ : ∃ z : Int, (IntKind.u32.wrap v).tmod 2 = z ∧ (z = 0 ∨ z = 1) := by
    refine ⟨_, rfl, ?_⟩
    rw [IntKind.wrap_u32, Int.tmod_eq_emod_of_nonneg (by omega)]; omega
  have hv64 : IntKind.i64.wrap v = v := by unfold I32 at hv; exact wrap64 (by omega) (by omega)
  have hvp : -9223372036854775808 ≤ v ∧ v ≤ 9223372036854775807 := by unfold I32 at hv; omega
  refine enter fn_l29_changed rfl nt_l29_changed rfl rfl (fun φ w0 β0 F => ?_)
  refine c_run tt_ok (ct := []) trivial k_l29_changed [100055] 90 (by kernel_rfl) ?_
  have hp64 : -9223372036854775808 ≤ IntKind.i64.wrap v ∧ IntKind.i64.wrap v ≤ 9223372036854775807 := by rw [hv64]; exact hvp
  refine ⟨fun _ => ?_, fun _ => ?_⟩
  · exact fin_k tt_ok (rs := rs_l29_changed) rfl rfl (hK { k with a := v } (by constructor <;> first | exact hv | exact hp64 | exact hok.a | exact hok.b | exact hok.c | exact hok.iptr | exact hok.wptr | exact hok.pri | exact hok.f0 | exact hok.f1 | exact hok.b0 | exact hok.b1 | exact hok.t0 | exact hok.t1 | exact hok.k0 | exact hok.k1 | exact hok.ticks | exact hok.slice | exact hok.sa | exact hok.sb | exact hok.sc | exact hok.siptr | exact hok.swptr | exact hok.sslice)) [] rfl rfl rfl rfl rfl rfl
  refine ⟨fun _ => ?_, fun _ => ?_⟩
  · exact fin_k tt_ok (rs := rs_l29_changed) rfl rfl (hK { k with b := v } (by constructor <;> first | exact hv | exact hp64 | exact hok.a | exact hok.b | exact hok.c | exact hok.iptr | exact hok.wptr | exact hok.pri | exact hok.f0 | exact hok.f1 | exact hok.b0 | exact hok.b1 | exact hok.t0 | exact hok.t1 | exact hok.k0 | exact hok.k1 | exact hok.ticks | exact hok.slice | exact hok.sa | exact hok.sb | exact hok.sc | exact hok.siptr | exact hok.swptr | exact hok.sslice)) [] rfl rfl rfl rfl rfl rfl
  refine ⟨fun _ => ?_, fun _ => ?_⟩
  · exact fin_k tt_ok (rs := rs_l29_changed) rfl rfl (hK { k with iptr := v } (by constructor <;> first | exact hv | exact hp64 | exact hok.a | exact hok.b | exact hok.c | exact hok.iptr | exact hok.wptr | exact hok.pri | exact hok.f0 | exact hok.f1 | exact hok.b0 | exact hok.b1 | exact hok.t0 | exact hok.t1 | exact hok.k0 | exact hok.k1 | exact hok.ticks | exact hok.slice | exact hok.sa | exact hok.sb | exact hok.sc | exact hok.siptr | exact hok.swptr | exact hok.sslice)) [] rfl rfl rfl rfl rfl rfl
  refine ⟨fun _ => ?_, fun _ => ?_⟩
  · exact fin_k tt_ok (rs := rs_l29_changed) rfl rfl (hK { k with wptr := v } (by constructor <;> first | exact hv | exact hp64 | exact hok.a | exact hok.b | exact hok.c | exact hok.iptr | exact hok.wptr | exact hok.pri | exact hok.f0 | exact hok.f1 | exact hok.b0 | exact hok.b1 | exact hok.t0 | exact hok.t1 | exact hok.k0 | exact hok.k1 | exact hok.ticks | exact hok.slice | exact hok.sa | exact hok.sb | exact hok.sc | exact hok.siptr | exact hok.swptr | exact hok.sslice)) [] rfl rfl rfl rfl rfl rfl
  refine ⟨fun _ => ?_, fun _ => ?_⟩
  · exact fin_k tt_ok (rs := rs_l29_changed) rfl rfl (hK { k with pri := IntKind.i64.wrap v } (by constructor <;> first | exact hv | exact hp64 | exact hok.a | exact hok.b | exact hok.c | exact hok.iptr | exact hok.wptr | exact hok.pri | exact hok.f0 | exact hok.f1 | exact hok.b0 | exact hok.b1 | exact hok.t0 | exact hok.t1 | exact hok.k0 | exact hok.k1 | exact hok.ticks | exact hok.slice | exact hok.sa | exact hok.sb | exact hok.sc | exact hok.siptr | exact hok.swptr | exact hok.sslice)) [] rfl rfl rfl rfl rfl rfl
  refine ⟨fun _ => ?_, fun _ => ?_⟩
  · exact fin_k tt_ok (rs := rs_l29_changed) rfl rfl (hK { k with busy := v.tmod 2 == 0 } (by constructor <;> first | exact hv | exact hp64 | exact hok.a | exact hok.b | exact hok.c | exact hok.iptr | exact hok.wptr | exact hok.pri | exact hok.f0 | exact hok.f1 | exact hok.b0 | exact hok.b1 | exact hok.t0 | exact hok.t1 | exact hok.k0 | exact hok.k1 | exact hok.ticks | exact hok.slice | exact hok.sa | exact hok.sb | exact hok.sc | exact hok.siptr | exact hok.swptr | exact hok.sslice)) [] rfl rfl rfl rfl rfl rfl
  refine ⟨fun _ => ?_, fun _ => ?_⟩
  · exact fin_k tt_ok (rs := rs_l29_changed) rfl rfl (hK { k with err := v.tmod 2 == 0 } (by constructor <;> first | exact hv | exact hp64 | exact hok.a | exact hok.b | exact hok.c | exact hok.iptr | exact hok.wptr | exact hok.pri | exact hok.f0 | exact hok.f1 | exact hok.b0 | exact hok.b1 | exact hok.t0 | exact hok.t1 | exact hok.k0 | exact hok.k1 | exact hok.ticks | exact hok.slice | exact hok.sa | exact hok.sb | exact hok.sc | exact hok.siptr | exact hok.swptr | exact hok.sslice)) [] rfl rfl rfl rfl rfl rfl
  refine ⟨fun _ => ?_, fun _ => ?_⟩
  · exact fin_k tt_ok (rs := rs_l29_changed) rfl rfl (hK { k with slice := v } (by constructor <;> first | exact hv | exact hp64 | exact hok.a | exact hok.b | exact hok.c | exact hok.iptr | exact hok.wptr | exact hok.pri | exact hok.f0 | exact hok.f1 | exact hok.b0 | exact hok.b1 | exact hok.t0 | exact hok.t1 | exact hok.k0 | exact hok.k1 | exact hok.ticks | exact hok.slice | exact hok.sa | exact hok.sb | exact hok.sc | exact hok.siptr | exact hok.swptr | exact hok.sslice)) [] rfl rfl rfl rfl rfl rfl
  refine ⟨fun _ => ?_, fun _ => ?_⟩
  · rcases hz2 with e | e
    · refine ⟨.t (.s (.int .u32 0)), fun β => told_n (hz.trans e), rfl, ?_⟩
      exact fin_k tt_ok (rs := rs_l29_changed) rfl rfl (hK { k with f0 := v } (by constructor <;> first | exact hv | exact hp64 | exact hok.a | exact hok.b | exact hok.c | exact hok.iptr | exact hok.wptr | exact hok.pri | exact hok.f0 | exact hok.f1 | exact hok.b0 | exact hok.b1 | exact hok.t0 | exact hok.t1 | exact hok.k0 | exact hok.k1 | exact hok.ticks | exact hok.slice | exact hok.sa | exact hok.sb | exact hok.sc | exact hok.siptr | exact hok.swptr | exact hok.sslice)) [] rfl rfl rfl rfl rfl rfl
    · refine ⟨.t (.s (.int .u32 1)), fun β => told_n (hz.trans e), rfl, ?_⟩
      exact fin_k tt_ok (rs := rs_l29_changed) rfl rfl (hK { k with f1 := v } (by constructor <;> first | exact hv | exact hp64 | exact hok.a | exact hok.b | exact hok.c | exact hok.iptr | exact hok.wptr | exact hok.pri | exact hok.f0 | exact hok.f1 | exact hok.b0 | exact hok.b1 | exact hok.t0 | exact hok.t1 | exact hok.k0 | exact hok.k1 | exact hok.ticks | exact hok.slice | exact hok.sa | exact hok.sb | exact hok.sc | exact hok.siptr | exact hok.swptr | exact hok.sslice)) [] rfl rfl rfl rfl rfl rfl
  exact fin_k tt_ok (rs := rs_l29_changed) rfl rfl (hK { k with halted := v.tmod 4 == 0 } (by constructor <;> first | exact hv | exact hp64 | exact hok.a | exact hok.b | exact hok.c | exact hok.iptr | exact hok.wptr | exact hok.pri | exact hok.f0 | exact hok.f1 | exact hok.b0 | exact hok.b1 | exact hok.t0 | exact hok.t1 | exact hok.k0 | exact hok.k1 | exact hok.ticks | exact hok.slice | exact hok.sa | exact hok.sb | exact hok.sc | exact hok.siptr | exact hok.swptr | exact hok.sslice)) [] rfl rfl rfl rfl rfl rfl
noncomputable abbrev eChanged : Ent := .st (conS (P := Try.prog) (f := f_l29_changed) fun cargs σ0 => match cargs, σ0 with
  | [.agg cs, .s (.int .i32 a), .s (.int .i32 v)], [] => withCore cs fun k hk => some ⟨.ask (k.ok ∧ I32 a ∧ I32 v) (.all Core (fun k' => k'.ok) fun k' => .ret (.t (.agg k'.sv)) []), fun K h => by
      obtain ⟨⟨h1, h2, h3⟩, h⟩ := h
      subst hk
      exact changed_c k a v h1 h2 h3 K h⟩
  | _, _ => none)
noncomputable abbrev ctBo : CT := [(f_sched_Append, eAppend), (f_r29_Append, eRAppend), (f_sched_Take, eTake), (f_r29_Take, eRTake), (f_sched_Wait, eWaitT), (f_r29_Wait, eRWait), (f_sched_Settle, eSettle), (f_r29_Settle, eRSettle), (f_sched_Slice, eSlice), (f_r29_Slice, eRSlice), (f_sched_Exec, eExec), (f_r29_Exec, eRExec), (f_mem_Mem_SetWord, eSetWordT), (f_r03_SetWord, eRSetWordT), (f_l29_changed, eChanged), (f_sched_Queue, eQueue), (f_r29_Queue, eRQueue), (f_r29_Same, .rd rdSame), (f_mem_Mem_Bytes, eBytes), (f_r03_Same, .rd rdBytes)]
theorem ctBo_ok : CTok Try.prog ctBo := ⟨con_ok cal_sched_Append _, con_ok cal_r29_Append _, con_ok cal_sched_Take _, con_ok cal_r29_Take _, con_ok cal_sched_Wait _, con_ok cal_r29_Wait _, con_ok cal_sched_Settle _, con_ok cal_r29_Settle _, con_ok cal_sched_Slice _, con_ok cal_r29_Slice _, con_ok cal_sched_Exec _, con_ok cal_r29_Exec _, con_ok cal_mem_Mem_SetWord _, con_ok cal_r03_SetWord _, con_ok cal_l29_changed _, con_ok cal_sched_Queue _, con_ok cal_r29_Queue _, re_same, con_ok cal_mem_Mem_Bytes _, re_bytes, trivial⟩
abbrev mBox2 (n : Nat) : Ch := .blk 52 [.sl 2 0 n n]
structure Pl where
  wh : Int
  at_ : Int
  v : Int
  pri : Int
  fn : Int
  n : Int
def Pl.sv (x : Pl) : List SV := [.int .u8 x.wh, .int .i32 x.at_, .int .i32 x.v, .int .i64 x.pri, .int .u8 x.fn, .int .i32 x.n]
structure Pl.good (x : Pl) : Prop where
  wh : 0 ≤ x.wh ∧ x.wh < 256
  at_ : I32 x.at_
  v : I32 x.v
  pri : -9223372036854775808 ≤ x.pri ∧ x.pri ≤ 9223372036854775807
abbrev BothO (m : Ram) : Out := .all (Core × Ram × Nat) (fun p => p.1.ok ∧ p.2.1.l.length ≤ p.2.2) fun p => .ret (.tup [.agg p.1.sv, .s (.sl 3 0 p.2.1.l.length p.2.2), .s (.bool true)]) [mBox2 p.2.1.l.length, .view (bytesI m.l), mOwn p.2.1.l, .view (bytesI p.2.1.l)]
set_option maxHeartbeats 2000000 in
theorem both_0 (k : Core) (m : Ram) (cap : Nat) (x : Pl) (hx : x.good) (hok : k.ok) (hc : m.l.length ≤ cap) (hw : x.wh.tmod 9 = 0) : Con Try.prog f_l29_both [.agg k.sv, .s (.loc 0 0), .s (.sl 1 0 m.l.length cap), .agg x.sv] [mBox2 m.l.length, .view (bytesI m.l), mOwn m.l] (BothO m) := by
  intro K hK
  refine enter fn_l29_both rfl nt_l29_both rfl rfl (fun φ w0 β0 F => ?_)
  refine c_run tt_ok ctBo_ok k_l29_both [] 90 (by kernel_rfl) ?_
  show WpC _ _ _ _ _
  refine c_merge [(1, .t (.s (.loc 0 0)), none), (2, .t (.s (.sl 1 0 m.l.length cap)), none), (4, .t (.s (.loc 3 0)), none), (7, .t (.s (.loc 4 0)), none), (8, .t (.s (.loc 5 0)), none), (11, .t (.s (.loc 6 0)), none), (12, .t (.s (.loc 7 0)), none), (13, .t (.s (.sl 1 0 m.l.length cap)), none)]
    [mBox2 m.l.length, .view (bytesI m.l), mOwn m.l, .blk 32 k.sv, .blk 70 x.sv, .blk 32 Core.zero.sv, .blk 32 k.sv, .blk 32 k.sv] (fun key => ?ways) ?cont
  case ways =>
    refine c_waysH tt_ok ctBo_ok k_l29_both [3] rfl rfl rfl ?_
    repeat' (first | exact trivial | exact ⟨rfl, trivial⟩ | (refine And.intro ?_ ?_))
    all_goals
      refine WpE.into ?_ key
      first
        | exact into [0, 1, 2, 3, 4, 5, 6, 7] ⟨⟨_, rfl, rfl⟩, ⟨_, rfl, rfl⟩, ⟨_, rfl, rfl⟩, ⟨_, rfl, rfl⟩, ⟨_, rfl, rfl⟩, ⟨_, rfl, rfl⟩, ⟨_, rfl, rfl⟩, ⟨_, rfl, rfl⟩, trivial⟩ ⟨_, rfl, rfl⟩ rfl rfl rfl rfl
        | exact into [0, 1, 2, 3, 4, 5, 7, 6] ⟨⟨_, rfl, rfl⟩, ⟨_, rfl, rfl⟩, ⟨_, rfl, rfl⟩, ⟨_, rfl, rfl⟩, ⟨_, rfl, rfl⟩, ⟨_, rfl, rfl⟩, ⟨_, rfl, rfl⟩, ⟨_, rfl, rfl⟩, trivial⟩ ⟨_, rfl, rfl⟩ rfl rfl rfl rfl
  refine e_run tt_ok ctBo_ok k_l29_both [100027, 100192, 100197, 100203] 90 (by kernel_rfl) ?_
  refine ⟨.t (.s (.int .u8 0)), fun β => told_n hw, rfl, ?_⟩
  refine ⟨fun _ => ?_, fun e => absurd e (by decide)⟩
  obtain ⟨⟨k', e', m'⟩, hR⟩ : ∃ r, appR k m x.v = r := ⟨_, rfl⟩
  have okk : k'.ok := by have := appR_ok (m := m) hok hx.v; rw [hR] at this; exact this
  refine ⟨(m, k', e', m'), ⟨rfl, rfl, rfl, rfl, ⟨hok, hx.v⟩, hR⟩, ?_⟩
  refine ⟨(m, k', e', m'), ⟨rfl, rfl, ⟨hok, hx.v, hc⟩, hR⟩, fun c1 hc1 => ?_⟩
  refine ⟨.t (.s (.bool false)), fun β => told_bl (by simp), rfl, ?_⟩
  refine ⟨.t (.s (.bool false)), fun β => told_bl (by simp), rfl, ?_⟩
  refine ⟨fun _ => ⟨m'.l, ⟨rfl, rfl, rfl, rfl, m'.hi, by have := m'.lo; omega⟩, ?_⟩, fun h => absurd h (by decide)⟩
  refine ⟨fun _ => ⟨(m'.l, m'.l), ⟨seg_b m', rfl, seg_b m', rfl⟩, ?_⟩, fun h => absurd h (by decide)⟩
  refine ⟨.t (.s (.bool false)), fun β => told_bl (by simp [sameB]), rfl, ?_⟩
  refine ⟨fun h => absurd h (by decide), fun _ => ⟨fun h6 => ?_, fun h6 => ?_⟩⟩
  · exact fin_k tt_ok (rs := rs_l29_both) rfl rfl (hK (k, m', c1) ⟨hok, hc1⟩) [0, 1, 2, 8] rfl rfl rfl rfl rfl rfl
  · exact fin_k tt_ok (rs := rs_l29_both) rfl rfl (hK (k', m', c1) ⟨okk, hc1⟩) [0, 1, 2, 8] rfl rfl rfl rfl rfl rfl
set_option maxHeartbeats 2000000 in
theorem both_1 (k : Core) (m : Ram) (cap : Nat) (x : Pl) (hx : x.good) (hok : k.ok) (hc : m.l.length ≤ cap) (hw : x.wh.tmod 9 = 1) : Con Try.prog f_l29_both [.agg k.sv, .s (.loc 0 0), .s (.sl 1 0 m.l.length cap), .agg x.sv] [mBox2 m.l.length, .view (bytesI m.l), mOwn m.l] (BothO m) := by
  intro K hK
  refine enter fn_l29_both rfl nt_l29_both rfl rfl (fun φ w0 β0 F => ?_)
  refine c_run tt_ok ctBo_ok k_l29_both [] 90 (by kernel_rfl) ?_
  show WpC _ _ _ _ _
  refine c_merge [(1, .t (.s (.loc 0 0)), none), (2, .t (.s (.sl 1 0 m.l.length cap)), none), (4, .t (.s (.loc 3 0)), none), (7, .t (.s (.loc 4 0)), none), (8, .t (.s (.loc 5 0)), none), (11, .t (.s (.loc 6 0)), none), (12, .t (.s (.loc 7 0)), none), (13, .t (.s (.sl 1 0 m.l.length cap)), none)]
    [mBox2 m.l.length, .view (bytesI m.l), mOwn m.l, .blk 32 k.sv, .blk 70 x.sv, .blk 32 Core.zero.sv, .blk 32 k.sv, .blk 32 k.sv] (fun key => ?ways) ?cont
  case ways =>
    refine c_waysH tt_ok ctBo_ok k_l29_both [3] rfl rfl rfl ?_
    repeat' (first | exact trivial | exact ⟨rfl, trivial⟩ | (refine And.intro ?_ ?_))
    all_goals
      refine WpE.into ?_ key
      first
        | exact into [0, 1, 2, 3, 4, 5, 6, 7] ⟨⟨_, rfl, rfl⟩, ⟨_, rfl, rfl⟩, ⟨_, rfl, rfl⟩, ⟨_, rfl, rfl⟩, ⟨_, rfl, rfl⟩, ⟨_, rfl, rfl⟩, ⟨_, rfl, rfl⟩, ⟨_, rfl, rfl⟩, trivial⟩ ⟨_, rfl, rfl⟩ rfl rfl rfl rfl
        | exact into [0, 1, 2, 3, 4, 5, 7, 6] ⟨⟨_, rfl, rfl⟩, ⟨_, rfl, rfl⟩, ⟨_, rfl, rfl⟩, ⟨_, rfl, rfl⟩, ⟨_, rfl, rfl⟩, ⟨_, rfl, rfl⟩, ⟨_, rfl, rfl⟩, ⟨_, rfl, rfl⟩, trivial⟩ ⟨_, rfl, rfl⟩ rfl rfl rfl rfl
  refine e_run tt_ok ctBo_ok k_l29_both [100027, 100192, 100197, 100203, 100096] 90 (by kernel_rfl) ?_
  refine ⟨.t (.s (.int .u8 1)), fun β => told_n hw, rfl, ?_⟩
  refine ⟨fun e => absurd e (by decide), fun _ => ?_⟩
  refine ⟨fun _ => ?_, fun e => absurd e (by decide)⟩
  obtain ⟨⟨k', w', e'⟩, hR⟩ : ∃ r, takR k m x.pri = r := ⟨_, rfl⟩
  have okk : k'.ok := by have := (takR_ok (m := m) (p := x.pri) hok).1; rw [hR] at this; exact this
  refine ⟨(m, k', w', e'), ⟨rfl, rfl, rfl, rfl, ⟨hok, hx.pri⟩, hR⟩, ?_⟩
  refine ⟨(m, k', w', e'), ⟨rfl, rfl, hok, hR⟩, ?_⟩
  refine ⟨.t (.s (.bool false)), fun β => told_bl (by simp), rfl, ?_⟩
  refine ⟨fun h => absurd h (by decide), fun _ => ?_⟩
  refine ⟨.t (.s (.bool false)), fun β => told_bl (by simp), rfl, ?_⟩
  refine ⟨.t (.s (.bool false)), fun β => told_bl (by simp), rfl, ?_⟩
  refine ⟨fun _ => ⟨m.l, ⟨rfl, rfl, rfl, rfl, m.hi, by have := m.lo; omega⟩, ?_⟩, fun h => absurd h (by decide)⟩
  refine ⟨fun _ => ⟨(m.l, m.l), ⟨seg_b m, rfl, seg_b m, rfl⟩, ?_⟩, fun h => absurd h (by decide)⟩
  refine ⟨.t (.s (.bool false)), fun β => told_bl (by simp [sameB]), rfl, ?_⟩
  refine ⟨fun h => absurd h (by decide), fun _ => ⟨fun h6 => ?_, fun h6 => ?_⟩⟩
  · refine WpE.into (aliasSlot 9 1 0 m.l.length cap rfl rfl) ?_
    refine fin_k tt_ok (rs := rs_l29_both) rfl rfl (hK (k, m, cap) ⟨hok, hc⟩) [0, 1, 2, 9] rfl ?_ rfl rfl rfl rfl
    rw [seg_all]; rfl
  · refine WpE.into (aliasSlot 9 1 0 m.l.length cap rfl rfl) ?_
    refine fin_k tt_ok (rs := rs_l29_both) rfl rfl (hK (k', m, cap) ⟨okk, hc⟩) [0, 1, 2, 9] rfl ?_ rfl rfl rfl rfl
    rw [seg_all]; rfl
set_option maxHeartbeats 2000000 in
theorem both_2 (k : Core) (m : Ram) (cap : Nat) (x : Pl) (hx : x.good) (hok : k.ok) (hc : m.l.length ≤ cap) (hw : x.wh.tmod 9 = 2) : Con Try.prog f_l29_both [.agg k.sv, .s (.loc 0 0), .s (.sl 1 0 m.l.length cap), .agg x.sv] [mBox2 m.l.length, .view (bytesI m.l), mOwn m.l] (BothO m) := by
  intro K hK
  refine enter fn_l29_both rfl nt_l29_both rfl rfl (fun φ w0 β0 F => ?_)
  refine c_run tt_ok ctBo_ok k_l29_both [] 90 (by kernel_rfl) ?_
  show WpC _ _ _ _ _
  refine c_merge [(1, .t (.s (.loc 0 0)), none), (2, .t (.s (.sl 1 0 m.l.length cap)), none), (4, .t (.s (.loc 3 0)), none), (7, .t (.s (.loc 4 0)), none), (8, .t (.s (.loc 5 0)), none), (11, .t (.s (.loc 6 0)), none), (12, .t (.s (.loc 7 0)), none), (13, .t (.s (.sl 1 0 m.l.length cap)), none)]
    [mBox2 m.l.length, .view (bytesI m.l), mOwn m.l, .blk 32 k.sv, .blk 70 x.sv, .blk 32 Core.zero.sv, .blk 32 k.sv, .blk 32 k.sv] (fun key => ?ways) ?cont
  case ways =>
    refine c_waysH tt_ok ctBo_ok k_l29_both [3] rfl rfl rfl ?_
    repeat' (first | exact trivial | exact ⟨rfl, trivial⟩ | (refine And.intro ?_ ?_))
    all_goals
      refine WpE.into ?_ key
      first
        | exact into [0, 1, 2, 3, 4, 5, 6, 7] ⟨⟨_, rfl, rfl⟩, ⟨_, rfl, rfl⟩, ⟨_, rfl, rfl⟩, ⟨_, rfl, rfl⟩, ⟨_, rfl, rfl⟩, ⟨_, rfl, rfl⟩, ⟨_, rfl, rfl⟩, ⟨_, rfl, rfl⟩, trivial⟩ ⟨_, rfl, rfl⟩ rfl rfl rfl rfl
        | exact into [0, 1, 2, 3, 4, 5, 7, 6] ⟨⟨_, rfl, rfl⟩, ⟨_, rfl, rfl⟩, ⟨_, rfl, rfl⟩, ⟨_, rfl, rfl⟩, ⟨_, rfl, rfl⟩, ⟨_, rfl, rfl⟩, ⟨_, rfl, rfl⟩, ⟨_, rfl, rfl⟩, trivial⟩ ⟨_, rfl, rfl⟩ rfl rfl rfl rfl
  refine e_run tt_ok ctBo_ok k_l29_both [100027, 100192, 100197, 100203] 90 (by kernel_rfl) ?_
  refine ⟨.t (.s (.int .u8 2)), fun β => told_n hw, rfl, ?_⟩
  refine ⟨fun e => absurd e (by decide), fun _ => ?_⟩
  refine ⟨fun e => absurd e (by decide), fun _ => ?_⟩
  refine ⟨fun _ => ?_, fun e => absurd e (by decide)⟩
  obtain ⟨⟨k', e', m'⟩, hR⟩ : ∃ r, (waitK k m, waitE k m, waitM k m) = r := ⟨_, rfl⟩
  have okk : k'.ok := by have := waitK_ok (m := m) hok; rw [(Prod.mk.inj hR).1] at this; exact this
  refine ⟨(m, k', e', m'), ⟨rfl, rfl, rfl, rfl, hok.wptr, hR⟩, ?_⟩
  refine ⟨(m, k', e', m'), ⟨rfl, rfl, hok.wptr, hc, (waR_eq k m).trans hR⟩, fun c1 hc1 => ?_⟩
  refine ⟨.t (.s (.bool false)), fun β => told_bl (by simp), rfl, ?_⟩
  refine ⟨.t (.s (.bool false)), fun β => told_bl (by simp), rfl, ?_⟩
  refine ⟨fun _ => ⟨m'.l, ⟨rfl, rfl, rfl, rfl, m'.hi, by have := m'.lo; omega⟩, ?_⟩, fun h => absurd h (by decide)⟩
  refine ⟨fun _ => ⟨(m'.l, m'.l), ⟨seg_b m', rfl, seg_b m', rfl⟩, ?_⟩, fun h => absurd h (by decide)⟩
  refine ⟨.t (.s (.bool false)), fun β => told_bl (by simp [sameB]), rfl, ?_⟩
  refine ⟨fun h => absurd h (by decide), fun _ => ⟨fun h6 => ?_, fun h6 => ?_⟩⟩
  · exact fin_k tt_ok (rs := rs_l29_both) rfl rfl (hK (k, m', c1) ⟨hok, hc1⟩) [0, 1, 2, 8] rfl rfl rfl rfl rfl rfl
  · exact fin_k tt_ok (rs := rs_l29_both) rfl rfl (hK (k', m', c1) ⟨okk, hc1⟩) [0, 1, 2, 8] rfl rfl rfl rfl rfl rfl
set_option maxHeartbeats 2000000 in
theorem both_3 (k : Core) (m : Ram) (cap : Nat) (x : Pl) (hx : x.good) (hok : k.ok) (hc : m.l.length ≤ cap) (hw : x.wh.tmod 9 = 3) : Con Try.prog f_l29_both [.agg k.sv, .s (.loc 0 0), .s (.sl 1 0 m.l.length cap), .agg x.sv] [mBox2 m.l.length, .view (bytesI m.l), mOwn m.l] (BothO m) := by
  intro K hK
  refine enter fn_l29_both rfl nt_l29_both rfl rfl (fun φ w0 β0 F => ?_)
  refine c_run tt_ok ctBo_ok k_l29_both [] 90 (by kernel_rfl) ?_
  show WpC _ _ _ _ _
  refine c_merge [(1, .t (.s (.loc 0 0)), none), (2, .t (.s (.sl 1 0 m.l.length cap)), none), (4, .t (.s (.loc 3 0)), none), (7, .t (.s (.loc 4 0)), none), (8, .t (.s (.loc 5 0)), none), (11, .t (.s (.loc 6 0)), none), (12, .t (.s (.loc 7 0)), none), (13, .t (.s (.sl 1 0 m.l.length cap)), none)]
    [mBox2 m.l.length, .view (bytesI m.l), mOwn m.l, .blk 32 k.sv, .blk 70 x.sv, .blk 32 Core.zero.sv, .blk 32 k.sv, .blk 32 k.sv] (fun key => ?ways) ?cont
  case ways =>
    refine c_waysH tt_ok ctBo_ok k_l29_both [3] rfl rfl rfl ?_
    repeat' (first | exact trivial | exact ⟨rfl, trivial⟩ | (refine And.intro ?_ ?_))
    all_goals
      refine WpE.into ?_ key
      first
        | exact into [0, 1, 2, 3, 4, 5, 6, 7] ⟨⟨_, rfl, rfl⟩, ⟨_, rfl, rfl⟩, ⟨_, rfl, rfl⟩, ⟨_, rfl, rfl⟩, ⟨_, rfl, rfl⟩, ⟨_, rfl, rfl⟩, ⟨_, rfl, rfl⟩, ⟨_, rfl, rfl⟩, trivial⟩ ⟨_, rfl, rfl⟩ rfl rfl rfl rfl
        | exact into [0, 1, 2, 3, 4, 5, 7, 6] ⟨⟨_, rfl, rfl⟩, ⟨_, rfl, rfl⟩, ⟨_, rfl, rfl⟩, ⟨_, rfl, rfl⟩, ⟨_, rfl, rfl⟩, ⟨_, rfl, rfl⟩, ⟨_, rfl, rfl⟩, ⟨_, rfl, rfl⟩, trivial⟩ ⟨_, rfl, rfl⟩ rfl rfl rfl rfl
  refine e_run tt_ok ctBo_ok k_l29_both [100027, 100192, 100197, 100203] 90 (by kernel_rfl) ?_
  refine ⟨.t (.s (.int .u8 3)), fun β => told_n hw, rfl, ?_⟩
  refine ⟨fun e => absurd e (by decide), fun _ => ?_⟩
  refine ⟨fun e => absurd e (by decide), fun _ => ?_⟩
  refine ⟨fun e => absurd e (by decide), fun _ => ?_⟩
  refine ⟨fun _ => ?_, fun e => absurd e (by decide)⟩
  obtain ⟨⟨k', e'⟩, hR⟩ : ∃ r, setR k m = r := ⟨_, rfl⟩
  have okk : k'.ok := by have := setR_ok (m := m) hok; rw [hR] at this; exact this
  refine ⟨(m, k', e'), ⟨rfl, rfl, rfl, rfl, hok, hR⟩, ?_⟩
  refine ⟨(m, k', e'), ⟨rfl, rfl, hok, hR⟩, ?_⟩
  refine ⟨.t (.s (.bool false)), fun β => told_bl (by simp), rfl, ?_⟩
  refine ⟨.t (.s (.bool false)), fun β => told_bl (by simp), rfl, ?_⟩
  refine ⟨fun _ => ⟨m.l, ⟨rfl, rfl, rfl, rfl, m.hi, by have := m.lo; omega⟩, ?_⟩, fun h => absurd h (by decide)⟩
  refine ⟨fun _ => ⟨(m.l, m.l), ⟨seg_b m, rfl, seg_b m, rfl⟩, ?_⟩, fun h => absurd h (by decide)⟩
  refine ⟨.t (.s (.bool false)), fun β => told_bl (by simp [sameB]), rfl, ?_⟩
  refine ⟨fun h => absurd h (by decide), fun _ => ⟨fun h6 => ?_, fun h6 => ?_⟩⟩
  · refine WpE.into (aliasSlot 9 1 0 m.l.length cap rfl rfl) ?_
    refine fin_k tt_ok (rs := rs_l29_both) rfl rfl (hK (k, m, cap) ⟨hok, hc⟩) [0, 1, 2, 9] rfl ?_ rfl rfl rfl rfl
    rw [seg_all]; rfl
  · refine WpE.into (aliasSlot 9 1 0 m.l.length cap rfl rfl) ?_
    refine fin_k tt_ok (rs := rs_l29_both) rfl rfl (hK (k', m, cap) ⟨okk, hc⟩) [0, 1, 2, 9] rfl ?_ rfl rfl rfl rfl
    rw [seg_all]; rfl
set_option maxHeartbeats 2000000 in
theorem both_4 (k : Core) (m : Ram) (cap : Nat) (x : Pl) (hx : x.good) (hok : k.ok) (hc : m.l.length ≤ cap) (hw : x.wh.tmod 9 = 4) : Con Try.prog f_l29_both [.agg k.sv, .s (.loc 0 0), .s (.sl 1 0 m.l.length cap), .agg x.sv] [mBox2 m.l.length, .view (bytesI m.l), mOwn m.l] (BothO m) := by
  intro K hK
  refine enter fn_l29_both rfl nt_l29_both rfl rfl (fun φ w0 β0 F => ?_)
  refine c_run tt_ok ctBo_ok k_l29_both [] 90 (by kernel_rfl) ?_
  show WpC _ _ _ _ _
  refine c_merge [(1, .t (.s (.loc 0 0)), none), (2, .t (.s (.sl 1 0 m.l.length cap)), none), (4, .t (.s (.loc 3 0)), none), (7, .t (.s (.loc 4 0)), none), (8, .t (.s (.loc 5 0)), none), (11, .t (.s (.loc 6 0)), none), (12, .t (.s (.loc 7 0)), none), (13, .t (.s (.sl 1 0 m.l.length cap)), none)]
    [mBox2 m.l.length, .view (bytesI m.l), mOwn m.l, .blk 32 k.sv, .blk 70 x.sv, .blk 32 Core.zero.sv, .blk 32 k.sv, .blk 32 k.sv] (fun key => ?ways) ?cont
  case ways =>
    refine c_waysH tt_ok ctBo_ok k_l29_both [3] rfl rfl rfl ?_
    repeat' (first | exact trivial | exact ⟨rfl, trivial⟩ | (refine And.intro ?_ ?_))
    all_goals
      refine WpE.into ?_ key
      first
        | exact into [0, 1, 2, 3, 4, 5, 6, 7] ⟨⟨_, rfl, rfl⟩, ⟨_, rfl, rfl⟩, ⟨_, rfl, rfl⟩, ⟨_, rfl, rfl⟩, ⟨_, rfl, rfl⟩, ⟨_, rfl, rfl⟩, ⟨_, rfl, rfl⟩, ⟨_, rfl, rfl⟩, trivial⟩ ⟨_, rfl, rfl⟩ rfl rfl rfl rfl
        | exact into [0, 1, 2, 3, 4, 5, 7, 6] ⟨⟨_, rfl, rfl⟩, ⟨_, rfl, rfl⟩, ⟨_, rfl, rfl⟩, ⟨_, rfl, rfl⟩, ⟨_, rfl, rfl⟩, ⟨_, rfl, rfl⟩, ⟨_, rfl, rfl⟩, ⟨_, rfl, rfl⟩, trivial⟩ ⟨_, rfl, rfl⟩ rfl rfl rfl rfl
  refine e_run tt_ok ctBo_ok k_l29_both [100027, 100192, 100197, 100203] 90 (by kernel_rfl) ?_
  refine ⟨.t (.s (.int .u8 4)), fun β => told_n hw, rfl, ?_⟩
  refine ⟨fun e => absurd e (by decide), fun _ => ?_⟩
  refine ⟨fun e => absurd e (by decide), fun _ => ?_⟩
  refine ⟨fun e => absurd e (by decide), fun _ => ?_⟩
  refine ⟨fun e => absurd e (by decide), fun _ => ?_⟩
  refine ⟨fun _ => ?_, fun e => absurd e (by decide)⟩
  obtain ⟨⟨k', e', m'⟩, hR⟩ : ∃ r, sliR k m = r := ⟨_, rfl⟩
  have okk : k'.ok := by have := sliR_ok (m := m) hok; rw [hR] at this; exact this
  refine ⟨(m, k', e', m'), ⟨rfl, rfl, rfl, rfl, hok, hR⟩, ?_⟩
  refine ⟨(m, k', e', m'), ⟨rfl, rfl, ⟨hok, hc⟩, hR⟩, fun c1 hc1 => ?_⟩
  refine ⟨.t (.s (.bool false)), fun β => told_bl (by simp), rfl, ?_⟩
  refine ⟨.t (.s (.bool false)), fun β => told_bl (by simp), rfl, ?_⟩
  refine ⟨fun _ => ⟨m'.l, ⟨rfl, rfl, rfl, rfl, m'.hi, by have := m'.lo; omega⟩, ?_⟩, fun h => absurd h (by decide)⟩
  refine ⟨fun _ => ⟨(m'.l, m'.l), ⟨seg_b m', rfl, seg_b m', rfl⟩, ?_⟩, fun h => absurd h (by decide)⟩
  refine ⟨.t (.s (.bool false)), fun β => told_bl (by simp [sameB]), rfl, ?_⟩
  refine ⟨fun h => absurd h (by decide), fun _ => ⟨fun h6 => ?_, fun h6 => ?_⟩⟩
  · exact fin_k tt_ok (rs := rs_l29_both) rfl rfl (hK (k, m', c1) ⟨hok, hc1⟩) [0, 1, 2, 8] rfl rfl rfl rfl rfl rfl
  · exact fin_k tt_ok (rs := rs_l29_both) rfl rfl (hK (k', m', c1) ⟨okk, hc1⟩) [0, 1, 2, 8] rfl rfl rfl rfl rfl rfl
set_option maxHeartbeats 2000000 in
theorem both_5 (k : Core) (m : Ram) (cap : Nat) (x : Pl) (hx : x.good) (hok : k.ok) (hc : m.l.length ≤ cap) (hw : x.wh.tmod 9 = 5) : Con Try.prog f_l29_both [.agg k.sv, .s (.loc 0 0), .s (.sl 1 0 m.l.length cap), .agg x.sv] [mBox2 m.l.length, .view (bytesI m.l), mOwn m.l] (BothO m) := by
  intro K hK
  refine enter fn_l29_both rfl nt_l29_both rfl rfl (fun φ w0 β0 F => ?_)
  refine c_run tt_ok ctBo_ok k_l29_both [] 90 (by kernel_rfl) ?_
  show WpC _ _ _ _ _
  refine c_merge [(1, .t (.s (.loc 0 0)), none), (2, .t (.s (.sl 1 0 m.l.length cap)), none), (4, .t (.s (.loc 3 0)), none), (7, .t (.s (.loc 4 0)), none), (8, .t (.s (.loc 5 0)), none), (11, .t (.s (.loc 6 0)), none), (12, .t (.s (.loc 7 0)), none), (13, .t (.s (.sl 1 0 m.l.length cap)), none)]
    [mBox2 m.l.length, .view (bytesI m.l), mOwn m.l, .blk 32 k.sv, .blk 70 x.sv, .blk 32 Core.zero.sv, .blk 32 k.sv, .blk 32 k.sv] (fun key => ?ways) ?cont
  case ways =>
    refine c_waysH tt_ok ctBo_ok k_l29_both [3] rfl rfl rfl ?_
    repeat' (first | exact trivial | exact ⟨rfl, trivial⟩ | (refine And.intro ?_ ?_))
    all_goals
      refine WpE.into ?_ key
      first
        | exact into [0, 1, 2, 3, 4, 5, 6, 7] ⟨⟨_, rfl, rfl⟩, ⟨_, rfl, rfl⟩, ⟨_, rfl, rfl⟩, ⟨_, rfl, rfl⟩, ⟨_, rfl, rfl⟩, ⟨_, rfl, rfl⟩, ⟨_, rfl, rfl⟩, ⟨_, rfl, rfl⟩, trivial⟩ ⟨_, rfl, rfl⟩ rfl rfl rfl rfl
        | exact into [0, 1, 2, 3, 4, 5, 7, 6] ⟨⟨_, rfl, rfl⟩, ⟨_, rfl, rfl⟩, ⟨_, rfl, rfl⟩, ⟨_, rfl, rfl⟩, ⟨_, rfl, rfl⟩, ⟨_, rfl, rfl⟩, ⟨_, rfl, rfl⟩, ⟨_, rfl, rfl⟩, trivial⟩ ⟨_, rfl, rfl⟩ rfl rfl rfl rfl
  refine e_run tt_ok ctBo_ok k_l29_both [100027, 100192, 100197, 100203] 90 (by kernel_rfl) ?_
  refine ⟨.t (.s (.int .u8 5)), fun β => told_n hw, rfl, ?_⟩
  refine ⟨fun e => absurd e (by decide), fun _ => ?_⟩
  refine ⟨fun e => absurd e (by decide), fun _ => ?_⟩
  refine ⟨fun e => absurd e (by decide), fun _ => ?_⟩
  refine ⟨fun e => absurd e (by decide), fun _ => ?_⟩
  refine ⟨fun e => absurd e (by decide), fun _ => ?_⟩
  refine ⟨fun _ => ?_, fun e => absurd e (by decide)⟩
  obtain ⟨⟨k', e', m'⟩, hR⟩ : ∃ r, exeR k m x.fn x.n = r := ⟨_, rfl⟩
  have okk : k'.ok := by have := exeR_ok (m := m) (fn := x.fn) (n := x.n) hok; rw [hR] at this; exact this
  refine ⟨(m, k', e', m'), ⟨rfl, rfl, rfl, rfl, hok, hR⟩, ?_⟩
  refine ⟨(m, k', e', m'), ⟨rfl, rfl, ⟨hok, hc⟩, hR⟩, fun c1 hc1 => ?_⟩
  refine ⟨.t (.s (.bool false)), fun β => told_bl (by simp), rfl, ?_⟩
  refine ⟨.t (.s (.bool false)), fun β => told_bl (by simp), rfl, ?_⟩
  refine ⟨fun _ => ⟨m'.l, ⟨rfl, rfl, rfl, rfl, m'.hi, by have := m'.lo; omega⟩, ?_⟩, fun h => absurd h (by decide)⟩
  refine ⟨fun _ => ⟨(m'.l, m'.l), ⟨seg_b m', rfl, seg_b m', rfl⟩, ?_⟩, fun h => absurd h (by decide)⟩
  refine ⟨.t (.s (.bool false)), fun β => told_bl (by simp [sameB]), rfl, ?_⟩
  refine ⟨fun h => absurd h (by decide), fun _ => ⟨fun h6 => ?_, fun h6 => ?_⟩⟩
  · exact fin_k tt_ok (rs := rs_l29_both) rfl rfl (hK (k, m', c1) ⟨hok, hc1⟩) [0, 1, 2, 8] rfl rfl rfl rfl rfl rfl
  · exact fin_k tt_ok (rs := rs_l29_both) rfl rfl (hK (k', m', c1) ⟨okk, hc1⟩) [0, 1, 2, 8] rfl rfl rfl rfl rfl rfl
set_option maxHeartbeats 2000000 in
theorem both_6 (k : Core) (m : Ram) (cap : Nat) (x : Pl) (hx : x.good) (hok : k.ok) (hc : m.l.length ≤ cap) (hw : x.wh.tmod 9 = 6) : Con Try.prog f_l29_both [.agg k.sv, .s (.loc 0 0), .s (.sl 1 0 m.l.length cap), .agg x.sv] [mBox2 m.l.length, .view (bytesI m.l), mOwn m.l] (BothO m) := by
  intro K hK
  refine enter fn_l29_both rfl nt_l29_both rfl rfl (fun φ w0 β0 F => ?_)
  refine c_run tt_ok ctBo_ok k_l29_both [] 90 (by kernel_rfl) ?_
  show WpC _ _ _ _ _
  refine c_merge [(1, .t (.s (.loc 0 0)), none), (2, .t (.s (.sl 1 0 m.l.length cap)), none), (4, .t (.s (.loc 3 0)), none), (7, .t (.s (.loc 4 0)), none), (8, .t (.s (.loc 5 0)), none), (11, .t (.s (.loc 6 0)), none), (12, .t (.s (.loc 7 0)), none), (13, .t (.s (.sl 1 0 m.l.length cap)), none)]
    [mBox2 m.l.length, .view (bytesI m.l), mOwn m.l, .blk 32 k.sv, .blk 70 x.sv, .blk 32 Core.zero.sv, .blk 32 k.sv, .blk 32 k.sv] (fun key => ?ways) ?cont
  case ways =>
    refine c_waysH tt_ok ctBo_ok k_l29_both [3] rfl rfl rfl ?_
    repeat' (first | exact trivial | exact ⟨rfl, trivial⟩ | (refine And.intro ?_ ?_))
    all_goals
      refine WpE.into ?_ key
      first
        | exact into [0, 1, 2, 3, 4, 5, 6, 7] ⟨⟨_, rfl, rfl⟩, ⟨_, rfl, rfl⟩, ⟨_, rfl, rfl⟩, ⟨_, rfl, rfl⟩, ⟨_, rfl, rfl⟩, ⟨_, rfl, rfl⟩, ⟨_, rfl, rfl⟩, ⟨_, rfl, rfl⟩, trivial⟩ ⟨_, rfl, rfl⟩ rfl rfl rfl rfl
        | exact into [0, 1, 2, 3, 4, 5, 7, 6] ⟨⟨_, rfl, rfl⟩, ⟨_, rfl, rfl⟩, ⟨_, rfl, rfl⟩, ⟨_, rfl, rfl⟩, ⟨_, rfl, rfl⟩, ⟨_, rfl, rfl⟩, ⟨_, rfl, rfl⟩, ⟨_, rfl, rfl⟩, trivial⟩ ⟨_, rfl, rfl⟩ rfl rfl rfl rfl
  refine e_run tt_ok ctBo_ok k_l29_both [100027, 100192, 100197, 100203] 90 (by kernel_rfl) ?_
  refine ⟨.t (.s (.int .u8 6)), fun β => told_n hw, rfl, ?_⟩
  refine ⟨fun e => absurd e (by decide), fun _ => ?_⟩
  refine ⟨fun e => absurd e (by decide), fun _ => ?_⟩
  refine ⟨fun e => absurd e (by decide), fun _ => ?_⟩
  refine ⟨fun e => absurd e (by decide), fun _ => ?_⟩
  refine ⟨fun e => absurd e (by decide), fun _ => ?_⟩
  refine ⟨fun e => absurd e (by decide), fun _ => ?_⟩
  refine ⟨fun _ => ?_, fun e => absurd e (by decide)⟩
  obtain ⟨m', hm'⟩ : ∃ m', m.set x.at_ x.v = m' := ⟨_, rfl⟩
  have hml : m'.l.length = m.l.length := by rw [← hm']; exact set_len _ _ _
  refine ⟨m, ⟨rfl, rfl, rfl, rfl, hx.at_⟩, ?_⟩
  refine ⟨m, ⟨rfl, rfl, hx.at_, hc⟩, fun c1 hc1 => ?_⟩
  rw [hm']
  refine ⟨.t (.s (.bool false)), fun β => told_bl (by simp), rfl, ?_⟩
  refine ⟨.t (.s (.bool false)), fun β => told_bl (by simp), rfl, ?_⟩
  refine ⟨fun _ => ⟨m'.l, ⟨rfl, rfl, rfl, rfl, m'.hi, by have := m'.lo; omega⟩, ?_⟩, fun h => absurd h (by decide)⟩
  refine ⟨fun _ => ⟨(m'.l, m'.l), ⟨seg_b m', rfl, seg_b m', rfl⟩, ?_⟩, fun h => absurd h (by decide)⟩
  refine ⟨.t (.s (.bool false)), fun β => told_bl (by simp [sameB]), rfl, ?_⟩
  refine ⟨fun h => absurd h (by decide), fun _ => ⟨fun h6 => ?_, fun h6 => ?_⟩⟩
  · exact fin_k tt_ok (rs := rs_l29_both) rfl rfl (hK (k, m', c1) ⟨hok, (by rw [hml]; exact hc1)⟩) [0, 1, 2, 8] rfl rfl rfl rfl rfl rfl
  · exact fin_k tt_ok (rs := rs_l29_both) rfl rfl (hK (k, m', c1) ⟨hok, (by rw [hml]; exact hc1)⟩) [0, 1, 2, 8] rfl rfl rfl rfl rfl rfl
set_option maxHeartbeats 2000000 in
theorem both_7 (k : Core) (m : Ram) (cap : Nat) (x : Pl) (hx : x.good) (hok : k.ok) (hc : m.l.length ≤ cap) (hw : x.wh.tmod 9 = 7) : Con Try.prog f_l29_both [.agg k.sv, .s (.loc 0 0), .s (.sl 1 0 m.l.length cap), .agg x.sv] [mBox2 m.l.length, .view (bytesI m.l), mOwn m.l] (BothO m) := by
  intro K hK
  refine enter fn_l29_both rfl nt_l29_both rfl rfl (fun φ w0 β0 F => ?_)
  refine c_run tt_ok ctBo_ok k_l29_both [] 90 (by kernel_rfl) ?_
  show WpC _ _ _ _ _
  refine c_merge [(1, .t (.s (.loc 0 0)), none), (2, .t (.s (.sl 1 0 m.l.length cap)), none), (4, .t (.s (.loc 3 0)), none), (7, .t (.s (.loc 4 0)), none), (8, .t (.s (.loc 5 0)), none), (11, .t (.s (.loc 6 0)), none), (12, .t (.s (.loc 7 0)), none), (13, .t (.s (.sl 1 0 m.l.length cap)), none)]
    [mBox2 m.l.length, .view (bytesI m.l), mOwn m.l, .blk 32 k.sv, .blk 70 x.sv, .blk 32 Core.zero.sv, .blk 32 k.sv, .blk 32 k.sv] (fun key => ?ways) ?cont
  case ways =>
    refine c_waysH tt_ok ctBo_ok k_l29_both [3] rfl rfl rfl ?_
    repeat' (first | exact trivial | exact ⟨rfl, trivial⟩ | (refine And.intro ?_ ?_))
    all_goals
      refine WpE.into ?_ key
      first
        | exact into [0, 1, 2, 3, 4, 5, 6, 7] ⟨⟨_, rfl, rfl⟩, ⟨_, rfl, rfl⟩, ⟨_, rfl, rfl⟩, ⟨_, rfl, rfl⟩, ⟨_, rfl, rfl⟩, ⟨_, rfl, rfl⟩, ⟨_, rfl, rfl⟩, ⟨_, rfl, rfl⟩, trivial⟩ ⟨_, rfl, rfl⟩ rfl rfl rfl rfl
        | exact into [0, 1, 2, 3, 4, 5, 7, 6] ⟨⟨_, rfl, rfl⟩, ⟨_, rfl, rfl⟩, ⟨_, rfl, rfl⟩, ⟨_, rfl, rfl⟩, ⟨_, rfl, rfl⟩, ⟨_, rfl, rfl⟩, ⟨_, rfl, rfl⟩, ⟨_, rfl, rfl⟩, trivial⟩ ⟨_, rfl, rfl⟩ rfl rfl rfl rfl
  refine e_run tt_ok ctBo_ok k_l29_both [100027, 100192, 100197, 100203] 90 (by kernel_rfl) ?_
  refine ⟨.t (.s (.int .u8 7)), fun β => told_n hw, rfl, ?_⟩
  refine ⟨fun e => absurd e (by decide), fun _ => ?_⟩
  refine ⟨fun e => absurd e (by decide), fun _ => ?_⟩
  refine ⟨fun e => absurd e (by decide), fun _ => ?_⟩
  refine ⟨fun e => absurd e (by decide), fun _ => ?_⟩
  refine ⟨fun e => absurd e (by decide), fun _ => ?_⟩
  refine ⟨fun e => absurd e (by decide), fun _ => ?_⟩
  refine ⟨fun e => absurd e (by decide), fun _ => ?_⟩
  refine ⟨fun _ => ?_, fun e => absurd e (by decide)⟩
  refine ⟨⟨hok, hx.at_, hx.v⟩, fun k' okk => ?_⟩
  refine ⟨.t (.s (.bool false)), fun β => told_bl (by simp), rfl, ?_⟩
  refine ⟨.t (.s (.bool false)), fun β => told_bl (by simp), rfl, ?_⟩
  refine ⟨fun _ => ⟨m.l, ⟨rfl, rfl, rfl, rfl, m.hi, by have := m.lo; omega⟩, ?_⟩, fun h => absurd h (by decide)⟩
  refine ⟨fun _ => ⟨(m.l, m.l), ⟨seg_b m, rfl, seg_b m, rfl⟩, ?_⟩, fun h => absurd h (by decide)⟩
  refine ⟨.t (.s (.bool false)), fun β => told_bl (by simp [sameB]), rfl, ?_⟩
  refine ⟨fun h => absurd h (by decide), fun _ => ⟨fun h => absurd (show ((0 : Int) != 0) = true from h) (by decide), fun _ => ?_⟩⟩
  refine WpE.into (aliasSlot 9 1 0 m.l.length cap rfl rfl) ?_
  refine fin_k tt_ok (rs := rs_l29_both) rfl rfl (hK (k', m, cap) ⟨okk, hc⟩) [0, 1, 2, 9] rfl ?_ rfl rfl rfl rfl
  rw [seg_all]; rfl
set_option maxHeartbeats 2000000 in
theorem both_8 (k : Core) (m : Ram) (cap : Nat) (x : Pl) (hx : x.good) (hok : k.ok) (hc : m.l.length ≤ cap) (hw : x.wh.tmod 9 = 8) : Con Try.prog f_l29_both [.agg k.sv, .s (.loc 0 0), .s (.sl 1 0 m.l.length cap), .agg x.sv] [mBox2 m.l.length, .view (bytesI m.l), mOwn m.l] (BothO m) := by
  intro K hK
  refine enter fn_l29_both rfl nt_l29_both rfl rfl (fun φ w0 β0 F => ?_)
  refine c_run tt_ok ctBo_ok k_l29_both [] 90 (by kernel_rfl) ?_
  show WpC _ _ _ _ _
  refine c_merge [(1, .t (.s (.loc 0 0)), none), (2, .t (.s (.sl 1 0 m.l.length cap)), none), (4, .t (.s (.loc 3 0)), none), (7, .t (.s (.loc 4 0)), none), (8, .t (.s (.loc 5 0)), none), (11, .t (.s (.loc 6 0)), none), (12, .t (.s (.loc 7 0)), none), (13, .t (.s (.sl 1 0 m.l.length cap)), none)]
    [mBox2 m.l.length, .view (bytesI m.l), mOwn m.l, .blk 32 k.sv, .blk 70 x.sv, .blk 32 Core.zero.sv, .blk 32 k.sv, .blk 32 k.sv] (fun key => ?ways) ?cont
  case ways =>
    refine c_waysH tt_ok ctBo_ok k_l29_both [3] rfl rfl rfl ?_
    repeat' (first | exact trivial | exact ⟨rfl, trivial⟩ | (refine And.intro ?_ ?_))
    all_goals
      refine WpE.into ?_ key
      first
        | exact into [0, 1, 2, 3, 4, 5, 6, 7] ⟨⟨_, rfl, rfl⟩, ⟨_, rfl, rfl⟩, ⟨_, rfl, rfl⟩, ⟨_, rfl, rfl⟩, ⟨_, rfl, rfl⟩, ⟨_, rfl, rfl⟩, ⟨_, rfl, rfl⟩, ⟨_, rfl, rfl⟩, trivial⟩ ⟨_, rfl, rfl⟩ rfl rfl rfl rfl
        | exact into [0, 1, 2, 3, 4, 5, 7, 6] ⟨⟨_, rfl, rfl⟩, ⟨_, rfl, rfl⟩, ⟨_, rfl, rfl⟩, ⟨_, rfl, rfl⟩, ⟨_, rfl, rfl⟩, ⟨_, rfl, rfl⟩, ⟨_, rfl, rfl⟩, ⟨_, rfl, rfl⟩, trivial⟩ ⟨_, rfl, rfl⟩ rfl rfl rfl rfl
  refine e_run tt_ok ctBo_ok k_l29_both [100027, 100192, 100197, 100203, 100052] 90 (by kernel_rfl) ?_
  refine ⟨.t (.s (.int .u8 8)), fun β => told_n hw, rfl, ?_⟩
  refine ⟨fun e => absurd e (by decide), fun _ => ?_⟩
  refine ⟨fun e => absurd e (by decide), fun _ => ?_⟩
  refine ⟨fun e => absurd e (by decide), fun _ => ?_⟩
  refine ⟨fun e => absurd e (by decide), fun _ => ?_⟩
  refine ⟨fun e => absurd e (by decide), fun _ => ?_⟩
  refine ⟨fun e => absurd e (by decide), fun _ => ?_⟩
  refine ⟨fun e => absurd e (by decide), fun _ => ?_⟩
  refine ⟨fun e => absurd e (by decide), fun _ => ?_⟩
  obtain ⟨⟨L, e⟩, hR⟩ : ∃ r, queR k m x.pri = r := ⟨_, rfl⟩
  have hseg : ∀ n, n = L.length → seg (qV L) 0 (n * 1) = qV L := fun n hn => by rw [hn, Nat.mul_one, ← qV_len]; simp [seg]
  refine ⟨(m, L, e), ⟨rfl, rfl, rfl, rfl, ⟨hok, hx.pri⟩, hR⟩, fun c1 hc1 => ?_⟩
  refine ⟨(m, L, e), ⟨rfl, rfl, hok, hR⟩, fun c2 hc2 => ?_⟩
  refine ⟨(L, L), ⟨hseg _ rfl, rfl, hseg _ rfl, rfl, ?_⟩, ?_⟩
  · have := queR_len k m x.pri; rw [hR] at this; dsimp only at this ⊢; omega
  refine ⟨.t (.s (.bool false)), fun β => told_bl (by simp), rfl, ?_⟩
  refine ⟨fun h => absurd h (by decide), fun _ => ?_⟩
  refine ⟨.t (.s (.bool false)), fun β => told_bl (by simp), rfl, ?_⟩
  refine ⟨.t (.s (.bool false)), fun β => told_bl (by simp), rfl, ?_⟩
  refine ⟨fun _ => ⟨m.l, ⟨rfl, rfl, rfl, rfl, m.hi, by have := m.lo; omega⟩, ?_⟩, fun h => absurd h (by decide)⟩
  refine ⟨fun _ => ⟨(m.l, m.l), ⟨seg_b m, rfl, seg_b m, rfl⟩, ?_⟩, fun h => absurd h (by decide)⟩
  refine ⟨.t (.s (.bool false)), fun β => told_bl (by simp [sameB]), rfl, ?_⟩
  refine ⟨fun h => absurd h (by decide), fun _ => ⟨fun h => absurd (show ((0 : Int) != 0) = true from h) (by decide), fun _ => ?_⟩⟩
  refine WpE.into (aliasSlot 9 1 0 m.l.length cap rfl rfl) ?_
  refine fin_k tt_ok (rs := rs_l29_both) rfl rfl (hK (k, m, cap) ⟨hok, hc⟩) [0, 1, 2, 11] rfl ?_ rfl rfl rfl rfl
  rw [seg_all]; rfl
theorem both_c (k : Core) (m : Ram) (cap : Nat) (x : Pl) (hx : x.good) (hok : k.ok) (hc : m.l.length ≤ cap) : Con Try.prog f_l29_both [.agg k.sv, .s (.loc 0 0), .s (.sl 1 0 m.l.length cap), .agg x.sv] [mBox2 m.l.length, .view (bytesI m.l), mOwn m.l] (BothO m) := by
  have hw := hx.wh
  have h9 : x.wh.tmod 9 = x.wh % 9 := Int.tmod_eq_emod_of_nonneg hw.1
  have hr : x.wh % 9 = 0 ∨ x.wh % 9 = 1 ∨ x.wh % 9 = 2 ∨ x.wh % 9 = 3 ∨ x.wh % 9 = 4 ∨ x.wh % 9 = 5 ∨ x.wh % 9 = 6 ∨ x.wh % 9 = 7 ∨ x.wh % 9 = 8 := by omega
  rw [← h9] at hr
  rcases hr with h | h | h | h | h | h | h | h | h
  · exact both_0 k m cap x hx hok hc h
  · exact both_1 k m cap x hx hok hc h
  · exact both_2 k m cap x hx hok hc h
  · exact both_3 k m cap x hx hok hc h
  · exact both_4 k m cap x hx hok hc h
  · exact both_5 k m cap x hx hok hc h
  · exact both_6 k m cap x hx hok hc h
  · exact both_7 k m cap x hx hok hc h
  · exact both_8 k m cap x hx hok hc h
noncomputable abbrev eBoth : Ent := .st (conS (P := Try.prog) (f := f_l29_both) fun cargs σ0 => match cargs, σ0 with
  | [.agg cs, .s (.loc 0 0), .s (.sl 1 0 n cap), .agg [.int .u8 a1, .int .i32 a2, .int .i32 a3, .int .i64 a4, .int .u8 a5, .int .i32 a6]], [.blk 52 [.sl 2 0 n1 n2], .view ys, .own 5 1 c xs] => withCore cs fun k hk => some ⟨.ex Ram fun m => .ask (n = m.l.length ∧ n1 = m.l.length ∧ n2 = m.l.length ∧ c = m.l.length ∧ ys = bytesI m.l ∧ xs = bytesI m.l ∧ (k.ok ∧ m.l.length ≤ cap ∧ (⟨a1, a2, a3, a4, a5, a6⟩ : Pl).good)) (BothO m), fun K h => by
      obtain ⟨m, ⟨e1, e2, e3, e4, e5, e6, h1, h2, h3⟩, h⟩ := h
      subst e1; subst e2; subst e3; subst e4; subst e5; subst e6; subst hk
      exact both_c k m cap ⟨a1, a2, a3, a4, a5, a6⟩ h3 h1 h2 K h⟩
  | _, _ => none)
end Go.Proofs

namespace Go.Proofs
open Go Go.Sx
set_option maxRecDepth 10000
theorem mayM_ram' {l : List Int} (h : mayM l.length = true) (hb : ∀ b ∈ l, 0 ≤ b ∧ b < 256) : ∃ m : Ram, l = m.l := by
  obtain ⟨n, e, hn1, hn2⟩ := mayM_nat h
  exact ⟨⟨l, by omega, by omega, mayM_mod h, hb⟩, rfl⟩
theorem From_v (l : List Int) (cap : Nat) : Con Try.prog f_mem_From [.s (.sl 0 0 l.length cap)] [.view (bytesI l)] (.br (mayM l.length)
    (.ret (.tup [.s (.loc 1 0), .s (.int .i64 0)]) [.view (bytesI l), .blk 52 [.sl 2 0 l.length l.length], mOwn l])
    (.ret (.tup [.s (.raw (.pointer none)), .s (.int .i64 2)]) [.view (bytesI l)])) := by
  intro K ⟨hK1, hK2⟩
  refine enter fn_mem_From rfl nt_mem_From rfl rfl (fun φ w0 β0 F => ?_)
  refine c_run tt_ok ctM_ok k_mem_From [] 60 (by kernel_rfl) ?_
  refine ⟨fun h => ?_, fun h => ?_⟩
  · have hb : mayM l.length = false := by simpa using h
    exact fin_k tt_ok (rs := rs_mem_From) rfl rfl (hK2 hb) [0] rfl rfl rfl rfl rfl rfl
  · have hb : mayM l.length = true := by simpa using h
    obtain ⟨k, e, h1, h2⟩ := mayM_nat hb
    refine ⟨l.length, ⟨rfl, rfl, by simp only [maxLen]; omega, by omega⟩, ?_⟩
    refine ⟨l.length, ⟨by simp, by simp, by simp, by rw [seg_bytesI]; exact bytesI_one _⟩, ?_⟩
    refine fin_k tt_ok (rs := rs_mem_From) rfl rfl (hK1 hb) [0, 2, 1] rfl ?_ rfl rfl rfl rfl
    show pickL [Ch.view (bytesI l), Ch.own 5 1 l.length (setV (List.replicate l.length (Value.int .u8 0)) 0 (seg (bytesI l) 0 l.length)), Ch.blk 52 [SV.sl 1 0 l.length l.length]] [0, 2, 1] = _
    rw [copy_all l _ (by simp)]; rfl
noncomputable abbrev eFromV : Ent := .st (conS (P := Try.prog) (f := f_mem_From) fun cargs σ0 => match cargs, σ0 with
  | [.s (.sl 0 0 n cap)], [.view xs] => some ⟨.ex (List Int) fun l => .ask (xs = bytesI l ∧ n = l.length)
      (.br (mayM l.length) (.ret (.tup [.s (.loc 1 0), .s (.int .i64 0)]) [.view (bytesI l), .blk 52 [.sl 2 0 l.length l.length], mOwn l])
        (.ret (.tup [.s (.raw (.pointer none)), .s (.int .i64 2)]) [.view (bytesI l)])), fun K h => by
      obtain ⟨l, ⟨e1, e2⟩, h⟩ := h
      subst e1; subst e2
      exact From_v l _ K h⟩
  | _, _ => none)
def Pl.vs (x : Pl) : List Value := [.int .u8 x.wh, .int .i32 x.at_, .int .i32 x.v, .int .i64 x.pri, .int .u8 x.fn, .int .i32 x.n]
theorem pl_len (x : Pl) : x.vs.length = 6 := rfl
def plV (l : List Pl) : List Value := (l.map Pl.vs).flatten
theorem c_mergeA {α : Type} (p : α → Prop) {X : Cx} {c : Code} {Q : Exit → Act → World → Prop} {fr : Fr} {σ : List Ch} (fr' : α → Fr) (σ' : α → List Ch) (ways : (∀ x, p x → WpE X Q .normal (fr' x) (σ' x)) → WpC X c Q fr σ) (cont : ∀ x, p x → WpE X Q .normal (fr' x) (σ' x)) : WpC X c Q fr σ := ways cont
theorem seg_sub {xs : List Value} {off a b n : Nat} (h : a + b ≤ n) : seg xs (off + a) b = seg (seg xs off n) a b := by
  unfold seg
  apply List.ext_getElem?
  intro j
  by_cases hj : j < b
  · rw [List.getElem?_take_of_lt hj, List.getElem?_take_of_lt hj, List.getElem?_drop, List.getElem?_drop, List.getElem?_take_of_lt (by omega), List.getElem?_drop]
    congr 1; omega
  · rw [List.getElem?_take, List.getElem?_take, if_neg hj, if_neg hj]
noncomputable abbrev ctSP : CT := [(f_l29_head, eHead), (f_mem_From, eFromV), (f_l29_both, eBoth), (f_sched_Settled, .pure spSettled), (f_r29_Settled, .pure spRSettled), (f_sched_Mine, .pure spMine), (f_r29_Mine, .pure spRMine)]
theorem ctSP_ok : CTok Try.prog ctSP := ⟨con_ok cal_l29_head _, con_ok cal_mem_From _, con_ok cal_l29_both _, ceSettled, ceRSettled, ceMine, ceRMine, trivial⟩
set_option maxHeartbeats 4000000 in
theorem SchedPlays_c (k : Core) (l : List Int) (capb : Nat) (D : List Pl) (cap : Nat) (hok : k.ok) (hb : ∀ b ∈ l, 0 ≤ b ∧ b < 256) (hcb : l.length ≤ capb) (hD : ∀ d ∈ D, d.good) (hcap : D.length ≤ cap) (hm : cap ≤ maxLen) :
    Con Try.prog f_l29_SchedPlays [.agg k.sv, .s (.sl 0 0 l.length capb), .s (.sl 1 0 D.length cap)] [.view (bytesI l), .view (plV D)] (.ret (.t (.s (.bool true))) [.view (bytesI l), .view (plV D)]) := by
  intro K hK
  have hm' : cap ≤ 9223372036854775807 := hm
  refine enter fn_l29_SchedPlays rfl nt_l29_SchedPlays rfl rfl (fun φ w0 β0 F => ?_)
  obtain ⟨big, hbig⟩ : ∃ b, (bif decide ((l.length : Int) > 2048) then true else decide ((D.length : Int) > 40)) = b := ⟨_, rfl⟩
  refine c_run tt_ok ctSP_ok k_l29_SchedPlays [100018] 90 (by kernel_rfl) ?_
  refine ⟨.t (.s (.bool big)), fun β => told_bl hbig, rfl, ?_⟩
  refine ⟨fun h1 => ?_, fun h1 => ?_⟩
  · exact fin_k tt_ok (rs := rs_l29_SchedPlays) rfl rfl hK [0, 1] rfl rfl rfl rfl rfl rfl
  rw [h1] at hbig
  have hlen : D.length ≤ 40 := by
    by_cases hq : (D.length : Int) > 40
    · rw [show decide ((D.length : Int) > 40) = true by simpa using hq] at hbig
      cases hz : decide ((l.length : Int) > 2048) <;> rw [hz] at hbig <;> simp at hbig
    · omega
  refine ⟨l, ⟨rfl, rfl⟩, fun h2 => ?_, fun h2 => ?_⟩
  rotate_left
  · refine ⟨fun _ => ?_, fun h => absurd (show ((2 : Int) != 0) = false from h) (by decide)⟩
    exact fin_k tt_ok (rs := rs_l29_SchedPlays) rfl rfl hK [0, 1] rfl rfl rfl rfl rfl rfl
  refine ⟨fun h => absurd (show ((0 : Int) != 0) = true from h) (by decide), fun _ => ?_⟩
  obtain ⟨m, hml⟩ := mayM_ram' h2 hb
  show WpC _ _ _ _ _
  refine WpC.into (aliasSlot 1 0 0 l.length capb rfl rfl) ?_
  refine c_loop (α := Nat × Core × Ram × Nat) (fun x => x.1 ≤ D.length ∧ x.2.1.ok ∧ x.2.2.1.l.length ≤ x.2.2.2) (fun x => D.length - x.1)
    (fun x => [(1, .t (.s (.sl 5 0 x.2.2.1.l.length x.2.2.2)), none), (2, .t (.s (.sl 1 0 D.length cap)), none), (3, .t (.s (.loc 2 0)), none), (7, .t (.s (.loc 3 0)), none), (10, .t (.s (.int .i64 (x.1 : Int))), none)])
    (fun x => [.view (bytesI l), .view (plV D), .blk 32 x.2.1.sv, .blk 52 [.sl 4 0 x.2.2.1.l.length x.2.2.1.l.length], mOwn x.2.2.1.l, .view (bytesI x.2.2.1.l)]) (0, k, m, capb) ⟨Nat.zero_le _, hok, by rw [← hml]; exact hcb⟩ ?_ ?_
  · refine into [0, 1, 2, 3, 4, 5] ⟨⟨_, rfl, by dsimp only; rw [← hml]; rfl⟩, ⟨_, rfl, rfl⟩, ⟨_, rfl, rfl⟩, ⟨_, rfl, rfl⟩, ⟨_, rfl, rfl⟩, trivial⟩ ⟨_, rfl, ?_⟩ rfl rfl rfl rfl
    dsimp only
    rw [← hml, show seg (bytesI l) 0 l.length = bytesI l by rw [hml]; exact seg_all m]; rfl
  rintro ⟨i, k, m, cb⟩ ⟨hi, hok, hcb⟩
  simp only at hi hok hcb
  dsimp only
  refine c_run' tt_ok ctSP_ok k_l29_SchedPlays [] 90 (by kernel_rfl) (by kernel_rfl) ?_
  refine ⟨fun h3 => ?_, fun h3 => ?_⟩
  rotate_left
  · exact fin_k tt_ok (rs := rs_l29_SchedPlays) rfl rfl hK [0, 1] rfl rfl rfl rfl rfl rfl
  have hlt : i < D.length := by have := of_decide_eq_true h3; omega
  obtain ⟨d, hd⟩ : ∃ d, D[i]? = some d := ⟨_, List.getElem?_eq_getElem hlt⟩
  have hg := hD d (List.mem_of_getElem? hd)
  have hbd := tab_bound pl_len (l := D) hlt
  have hrow := tab_row pl_len hd
  have hrow2 : seg (plV D) (0 + i * 6 + 4) 2 = [SV.int .u8 d.fn, SV.int .i32 d.n].map SV.cv := by
    have e : seg (plV D) (0 + i * 6 + 4) 2 = seg (seg (plV D) (0 + i * 6) 6) 4 2 := seg_sub (by decide)
    rw [e, show seg (plV D) (0 + i * 6) 6 = d.vs from hrow]; rfl
  show WpC _ _ _ _ _
  refine c_mergeA (α := Core × Ram × Nat) (fun p => p.1.ok ∧ p.2.1.l.length ≤ p.2.2)
    (fun p => [(1, .t (.s (.sl 5 0 p.2.1.l.length p.2.2)), none), (2, .t (.s (.sl 1 0 D.length cap)), none), (3, .t (.s (.loc 2 0)), none), (7, .t (.s (.loc 3 0)), none), (9, .t (.s (.bool true)), none), (10, .t (.s (.int .i64 (i : Int))), none)])
    (fun p => [.view (bytesI l), .view (plV D), .blk 32 p.1.sv, .blk 52 [.sl 4 0 p.2.1.l.length p.2.1.l.length], mOwn p.2.1.l, .view (bytesI p.2.1.l)]) (fun key => ?ways) ?cont
  case ways =>
    refine c_waysH tt_ok ctSP_ok k_l29_SchedPlays [1] rfl rfl rfl ?_
    repeat' (first | exact trivial | exact ⟨rfl, trivial⟩ | (refine Exists.intro i ?_; refine And.intro ⟨rfl, hlt, hbd⟩ ?_) | (refine Exists.intro d.sv ?_; refine And.intro rfl ?_; refine And.intro ⟨Nat.le_refl 6, hrow⟩ ?_) | (refine Exists.intro m ?_; refine And.intro ⟨rfl, rfl, rfl, rfl, rfl, rfl, ⟨hok, hcb, hg⟩⟩ ?_; intro p hp) | (refine And.intro ?_ ?_) | (refine fun _ => ?_))
    all_goals
      refine WpE.into ?_ (key p hp)
      exact into [0, 1, 2, 3, 4, 6] ⟨⟨_, rfl, rfl⟩, ⟨_, rfl, rfl⟩, ⟨_, rfl, rfl⟩, ⟨_, rfl, rfl⟩, ⟨_, rfl, rfl⟩, ⟨_, rfl, rfl⟩, trivial⟩ ⟨_, rfl, rfl⟩ rfl rfl rfl rfl
  rintro ⟨k', m', cb'⟩ ⟨hok', hcb'⟩
  simp only at hok' hcb'
  dsimp only
  refine e_run tt_ok ctSP_ok k_l29_SchedPlays [] 90 (by kernel_rfl) ?_
  refine ⟨fun _ => trivial, fun _ => hok', ?_⟩
  refine ⟨i, fun _ => ⟨rfl, hlt, hbd⟩, ?_⟩
  refine ⟨[.int .u8 d.fn, .int .i32 d.n], rfl, fun _ => ⟨Nat.le_refl 2, hrow2⟩, ?_⟩
  refine ⟨fun _ => trivial, ?_⟩
  refine ⟨i, fun _ => ⟨rfl, hlt, hbd⟩, ?_⟩
  refine ⟨[.int .u8 d.fn, .int .i32 d.n], rfl, fun _ => ⟨Nat.le_refl 2, hrow2⟩, ?_⟩
  refine ⟨fun _ => trivial, ?_⟩
  refine ⟨fun h => ?_, fun _ => ?_⟩
  · exfalso
    have h' : (bif (bif !true then true else !(satB k' == satB k')) then true else !(mineB d.fn d.n == mineB d.fn d.n)) = true := h
    simp at h'
  · exact e_again (i + 1, k', m', cb') ⟨by show i + 1 ≤ _; omega, hok', hcb'⟩ (by show D.length - (i + 1) < D.length - i; omega) (into [0, 1, 2, 3, 4, 5] ⟨⟨_, rfl, rfl⟩, ⟨_, rfl, rfl⟩, ⟨_, rfl, rfl⟩, ⟨_, rfl, rfl⟩, ⟨_, rfl, fvi (wrapSucc (by omega))⟩, trivial⟩ ⟨_, rfl, rfl⟩ rfl rfl rfl rfl)
theorem i64_fit {x : Int} (h : (Lit.int .i64 x).wf = true) : -9223372036854775808 ≤ x ∧ x ≤ 9223372036854775807 := by
  simp [Lit.wf, IntKind.min, IntKind.max, IntKind.signed, IntKind.bits] at h
  omega
theorem kok_cons {k : FK} {ks : List FK} {q : List Value} (h : KOK (k :: ks) q) : ∃ v vs, q = v :: vs ∧ k.ok v ∧ KOK ks vs := by
  cases q with
  | nil => exact h.elim
  | cons v vs => exact ⟨v, vs, rfl, h.1, h.2⟩
theorem kok_nil {q : List Value} (h : KOK [] q) : q = [] := by
  cases q with
  | nil => rfl
  | cons v vs => exact h.elim
theorem pl_conv (q : List Value) (h : KOK [.int .u8, .int .i32, .int .i32, .int .i64, .int .u8, .int .i32] q) : ∃ e, Pl.good e ∧ q = Pl.vs e := by
  obtain ⟨v0, q0, g0, ⟨a, e0, h1⟩, k0⟩ := kok_cons h
  obtain ⟨v1, q1, g1, ⟨b, e1, h2⟩, k1⟩ := kok_cons k0
  obtain ⟨v2, q2, g2, ⟨c, e2, h3⟩, k2⟩ := kok_cons k1
  obtain ⟨v3, q3, g3, ⟨d, e3, h4⟩, k3⟩ := kok_cons k2
  obtain ⟨v4, q4, g4, ⟨e, e4, _⟩, k4⟩ := kok_cons k3
  obtain ⟨v5, q5, g5, ⟨f, e5, _⟩, k5⟩ := kok_cons k4
  have g6 := kok_nil k5
  subst g6; subst e5; subst g5; subst e4; subst g4; subst e3; subst g3; subst e2; subst g2; subst e1; subst g1; subst e0; subst g0
  exact ⟨⟨a, b, c, d, e, f⟩, ⟨u8_fit h1, i32_fit h2, i32_fit h3, i64_fit h4⟩, rfl⟩
end Go.Proofs
