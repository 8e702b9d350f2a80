/- Plain laws of SchedOnce: where the processes are. -/
import Derived.Test.YtckbmpoomamenaaWalkG
import Derived.Test.YtckbmpoomamenaaWalkF

namespace Go.Proofs
open Go Go.Sx
set_option maxRecDepth 10000
def allQ (r s : Option Nat) (H L : List Nat) : List Nat := r.toList ++ (s.toList ++ (H ++ L))
/-- Who runs (and how), who was put away, who waits. -/
structure Half (k : Core) (m : Ram) (r : Option Nat) (lo : Bool) (s : Option Nat) (H L : List Nat) : Prop where
  ok : k.ok
  hl : m.l.length = 2048
  hal : k.halted = false
  tk : k.ticks = 0
  sl : 0 ≤ k.slice
  ssl : 0 ≤ k.sslice
  run : ∀ i, r = some i → k.busy = true ∧ k.wptr = spc i ∧ k.pri = pO lo
  idle : r = none → k.busy = false ∧ k.nobody = k
  sav : ∀ i, s = some i → k.sis = true ∧ k.swptr = spc i
  nsav : s = none → k.sis = false ∧ savZ k = true
  qh : QI k m false H
  ql : QI k m true L
  nd : (allQ r s H L).Nodup
  lt : ∀ x ∈ allQ r s H L, x < 20
  low : ∀ i j, s = some i → r = some j → lo = false
/-- A core between two steps. -/
def Calm (r : Option Nat) (lo : Bool) (s : Option Nat) (H L : List Nat) : Prop := (∃ i, r = some i ∧ (lo = false ∨ (H = [] ∧ s = none))) ∨ (r = none ∧ s = none ∧ H = [] ∧ L = [])
theorem nd_perm {A B : List Nat} (h : A.Perm B) (hn : B.Nodup) : A.Nodup := h.nodup_iff.2 hn
theorem lt_perm {A B : List Nat} (h : A.Perm B) (hn : ∀ x ∈ B, x < 20) : ∀ x ∈ A, x < 20 := fun x hx => hn x (h.mem_iff.1 hx)
theorem runC_f (k : Core) (m : Ram) (o : Bool) (j : Nat) (Q : List Nat) : (runC k m o j Q).ticks = k.ticks ∧ (runC k m o j Q).sslice = k.sslice ∧ (runC k m o j Q).sis = k.sis ∧ (runC k m o j Q).swptr = k.swptr ∧ (runC k m o j Q).slice = 0 ∧
    (runC k m o j Q).halted = k.halted ∧ savZ (runC k m o j Q) = savZ k := by
  cases o <;> cases Q <;> exact ⟨rfl, rfl, rfl, rfl, rfl, rfl, rfl⟩
theorem runC_o (k : Core) (m : Ram) (o : Bool) (j : Nat) (Q : List Nat) : (runC k m o j Q).fr (!o) = k.fr (!o) ∧ (runC k m o j Q).bk (!o) = k.bk (!o) := by
  cases o <;> cases Q <;> exact ⟨rfl, rfl⟩
theorem count_tac (r s : Option Nat) (H L : List Nat) (a : Nat) : (allQ r s H L).count a = r.toList.count a + (s.toList.count a + (H.count a + L.count a)) := by
  unfold allQ; simp only [List.count_append]
theorem perm_of {A B : List Nat} (h : ∀ a, A.count a = B.count a) : A.Perm B := List.perm_iff_count.2 h
theorem mem_q {r s : Option Nat} {H L : List Nat} {x : Nat} : x ∈ allQ r s H L ↔ r = some x ∨ s = some x ∨ x ∈ H ∨ x ∈ L := by
  unfold allQ
  cases r <;> cases s <;> simp [eq_comm]
theorem settle_law {k : Core} {m : Ram} {r : Option Nat} {lo : Bool} {s : Option Nat} {H L : List Nat} (h : Half k m r lo s H L) :
    ∃ (k' : Core) (r' : Option Nat) (lo' : Bool) (s' : Option Nat) (H' L' : List Nat), setR k m = (k', 0) ∧ Half k' m r' lo' s' H' L' ∧ Calm r' lo' s' H' L' ∧ (allQ r' s' H' L').Perm (allQ r s H L) := by
  have hf0 : k.f0 = fstQ H := h.qh.f
  cases r with
  | some i =>
    obtain ⟨hb, hw, hp⟩ := h.run i rfl
    cases lo with
    | false =>
      refine ⟨k, some i, false, s, H, L, ?_, h, .inl ⟨i, rfl, .inl rfl⟩, .refl _⟩
      unfold setR
      rw [hp, h.hal, hb]; rfl
    | true =>
      have hs : s = none := by
        cases s with
        | none => rfl
        | some x => exact absurd (h.low x i rfl rfl) (by decide)
      subst hs
      cases H with
      | nil =>
        refine ⟨k, some i, true, none, [], L, ?_, h, .inl ⟨i, rfl, .inr ⟨rfl, rfl⟩⟩, .refl _⟩
        have hhi : k.high = false := by unfold Core.high; rw [hf0]; rfl
        unfold setR
        rw [hp, h.hal, hb, hhi]; rfl
      | cons j H =>
        have hS := set_high h.hl hb h.hal hp h.qh
        have hQs : QI k.sav m false (j :: H) := h.qh.keep rfl rfl fun _ _ => rfl
        have hperm : (allQ (some j) (some i) H L).Perm (allQ (some i) none (j :: H) L) := perm_of fun a => by
          rw [count_tac, count_tac]
          simp only [Option.toList, List.count_cons, List.count_nil]
          omega
        obtain ⟨e1, e2, e3, e4, e5, e6, e7⟩ := runC_f k.sav m false j H
        obtain ⟨f1, f2⟩ := runC_o k.sav m false j H
        refine ⟨_, some j, false, some i, H, L, hS, ⟨runC_ok (sav_ok h.ok) (h.qh.lt j (by simp)) (fun x hx => h.qh.lt x (List.mem_cons_of_mem _ hx)), h.hl, e6.trans h.hal, e1.trans h.tk, (by rw [e5]; decide), by rw [e2]; exact h.sl, ?_, fun e => (by cases e), ?_, fun e => (by cases e), (sta_law h.hl hQs).2, ?_, nd_perm hperm h.nd, lt_perm hperm h.lt, fun _ _ _ _ => rfl⟩, .inl ⟨j, rfl, .inl rfl⟩, hperm⟩
        · intro x hx; cases hx; exact ⟨rfl, rfl, rfl⟩
        · intro x hx; cases hx; exact ⟨e3, e4.trans hw⟩
        · exact h.ql.keep f1 f2 fun _ _ => rfl
  | none =>
    obtain ⟨hb, hnb⟩ := h.idle rfl
    have hp : priB k.pri = true := by rw [← hnb]; rfl
    cases H with
    | cons j H =>
      have hS := set_next h.hl hb h.hal hp h.qh
      have hperm : (allQ (some j) s H L).Perm (allQ none s (j :: H) L) := perm_of fun a => by
        rw [count_tac, count_tac]
        simp only [Option.toList, List.count_cons, List.count_nil]
        omega
      obtain ⟨e1, e2, e3, e4, e5, e6, e7⟩ := runC_f k m false j H
      obtain ⟨f1, f2⟩ := runC_o k m false j H
      refine ⟨_, some j, false, s, H, L, hS, ⟨runC_ok h.ok (h.qh.lt j (by simp)) (fun x hx => h.qh.lt x (List.mem_cons_of_mem _ hx)), h.hl, e6.trans h.hal, e1.trans h.tk, (by rw [e5]; decide), by rw [e2]; exact h.ssl, ?_, fun e => (by cases e), fun x hx => ⟨e3.trans (h.sav x hx).1, e4.trans (h.sav x hx).2⟩, fun e => ⟨e3.trans (h.nsav e).1, e7.trans (h.nsav e).2⟩, (sta_law h.hl h.qh).2, h.ql.keep f1 f2 fun _ _ => rfl, nd_perm hperm h.nd, lt_perm hperm h.lt, fun _ _ _ _ => rfl⟩, .inl ⟨j, rfl, .inl rfl⟩, hperm⟩
      intro x hx; cases hx; exact ⟨rfl, rfl, rfl⟩
    | nil =>
      cases s with
      | some i =>
        obtain ⟨hs1, hs2⟩ := h.sav i rfl
        have hS := set_back (m := m) hb h.hal hp hf0 hs1
        have hperm : (allQ (some i) none [] L).Perm (allQ none (some i) [] L) := perm_of fun a => by
          rw [count_tac, count_tac]
          simp only [Option.toList, List.count_cons, List.count_nil]
          omega
        have h0 : I32 0 := by unfold I32; omega
        have hok : k.res.ok := by
          have h' := h.ok
          constructor <;> first | exact h0 | exact h'.sa | exact h'.sb | exact h'.sc | exact h'.siptr | exact h'.swptr | exact h'.sslice | exact ⟨by show (-9223372036854775808 : Int) ≤ 1; decide, by show (1 : Int) ≤ 9223372036854775807; decide⟩ | exact h'.f0 | exact h'.f1 | exact h'.b0 | exact h'.b1 | exact h'.t0 | exact h'.t1 | exact h'.k0 | exact h'.k1 | exact h'.ticks
        refine ⟨k.res, some i, true, none, [], L, hS, ⟨hok, h.hl, h.hal, h.tk, h.ssl, by show (0 : Int) ≤ 0; decide, ?_, fun e => (by cases e), fun x hx => (by cases hx), fun _ => ⟨rfl, rfl⟩, h.qh.keep rfl rfl fun _ _ => rfl, h.ql.keep rfl rfl fun _ _ => rfl, nd_perm hperm h.nd, lt_perm hperm h.lt, fun _ _ hx => (by cases hx)⟩, .inl ⟨i, rfl, .inr ⟨rfl, rfl⟩⟩, hperm⟩
        intro x hx; cases hx; exact ⟨rfl, hs2, rfl⟩
      | none =>
        obtain ⟨hs1, hs2⟩ := h.nsav rfl
        cases L with
        | cons j L =>
          have hS := set_low h.hl hb h.hal hp hf0 hs1 h.ql
          have hperm : (allQ (some j) none [] L).Perm (allQ none none [] (j :: L)) := perm_of fun a => by
            rw [count_tac, count_tac]
            simp only [Option.toList, List.count_cons, List.count_nil]
            omega
          obtain ⟨e1, e2, e3, e4, e5, e6, e7⟩ := runC_f k m true j L
          obtain ⟨f1, f2⟩ := runC_o k m true j L
          refine ⟨_, some j, true, none, [], L, hS, ⟨runC_ok h.ok (h.ql.lt j (by simp)) (fun x hx => h.ql.lt x (List.mem_cons_of_mem _ hx)), h.hl, e6.trans h.hal, e1.trans h.tk, (by rw [e5]; decide), by rw [e2]; exact h.ssl, ?_, fun e => (by cases e), fun x hx => (by cases hx), fun _ => ⟨e3.trans hs1, e7.trans hs2⟩, h.qh.keep f1 f2 fun _ _ => rfl, (sta_law h.hl h.ql).2, nd_perm hperm h.nd, lt_perm hperm h.lt, fun _ _ hx => (by cases hx)⟩, .inl ⟨j, rfl, .inr ⟨rfl, rfl⟩⟩, hperm⟩
          intro x hx; cases hx; exact ⟨rfl, rfl, rfl⟩
        | nil =>
          have hf1 : k.f1 = NP := h.ql.f
          have hhi : k.high = false := by unfold Core.high; rw [hf0]; rfl
          refine ⟨k, none, lo, none, [], [], ?_, h, .inr ⟨rfl, rfl, rfl, rfl⟩, .refl _⟩
          unfold setR
          rw [hp, h.hal, hb, hhi, hs1, hf1]; rfl
theorem coreEq_refl (k : Core) : coreEq k k = true := by unfold coreEq; simp
theorem settled_law {k : Core} {m : Ram} {r : Option Nat} {lo : Bool} {s : Option Nat} {H L : List Nat} (h : Half k m r lo s H L) (hc : Calm r lo s H L) : satB k = true := by
  have hf0 : k.f0 = fstQ H := h.qh.f
  have hf1 : k.f1 = fstQ L := h.ql.f
  have hp : priB k.pri = true := by
    cases r with
    | some i => rw [(h.run i rfl).2.2]; exact (pO_one lo).2
    | none => rw [← (h.idle rfl).2]; rfl
  have hbad : badS k = false := by
    unfold badS
    rw [or1B h.ok.pri, hp, h.tk, show decide (k.slice < 0) = false by simp; exact h.sl, show decide (k.sslice < 0) = false by simp; exact h.ssl]; rfl
  have hsz : (bif !k.sis then !savZ k else false) = false := by
    cases s with
    | some i => rw [(h.sav i rfl).1]; rfl
    | none => rw [(h.nsav rfl).1, (h.nsav rfl).2]; rfl
  have hnb : (bif !k.busy then !coreEq k k.nobody else false) = false := by
    cases r with
    | some i => rw [(h.run i rfl).1]; rfl
    | none => rw [(h.idle rfl).2, coreEq_refl, (h.idle rfl).1]; rfl
  unfold satB
  rw [hbad, hsz, hnb, h.hal]
  rcases hc with ⟨i, rfl, rfl | ⟨rfl, rfl⟩⟩ | ⟨rfl, rfl, rfl, rfl⟩
  · rw [(h.run i rfl).1, (h.run i rfl).2.2]; rfl
  · have hhi : k.high = false := by unfold Core.high; rw [hf0]; rfl
    rw [(h.run i rfl).1, hhi, (h.nsav rfl).1, (h.run i rfl).2.2]
    cases lo <;> rfl
  · have hhi : k.high = false := by unfold Core.high; rw [hf0]; rfl
    have hlo : k.low = false := by unfold Core.low; rw [hf1]; rfl
    rw [(h.idle rfl).1, hhi, hlo, (h.nsav rfl).1]; rfl
end Go.Proofs

namespace Go.Proofs
open Go Go.Sx
set_option maxRecDepth 10000
section
variable {k : Core} {m : Ram} {r : Option Nat} {lo : Bool} {s : Option Nat} {H L : List Nat}
theorem half_set (h : Half k m r lo s H L) {i : Nat} (hi : i < 50) {v : Int} (hv : I32 v) : Half k (m.set (spc i - 4) v) r lo s H L :=
  { ok := h.ok, hl := (set_len _ _ _).trans h.hl, hal := h.hal, tk := h.tk, sl := h.sl, ssl := h.ssl, run := h.run, idle := h.idle, sav := h.sav, nsav := h.nsav,
    qh := h.qh.keep rfl rfl fun x hx => set4_keep h.hl hi (h.qh.lt x hx) hv, ql := h.ql.keep rfl rfl fun x hx => set4_keep h.hl hi (h.ql.lt x hx) hv, nd := h.nd, lt := h.lt, low := h.low }
theorem appM_keep {Q : List Nat} {w x : Nat} (hl : m.l.length = 2048) (hQ : ∀ y ∈ Q, y < 50) (hx : x < 50) (hn : x ∉ Q) (hw : w < 50) : (appM m Q w).word (spc x - 8) = m.word (spc x - 8) := by
  by_cases hq : Q = []
  · subst hq; rfl
  · obtain ⟨q, hm, he⟩ := lstQ_mem hq
    rw [appM_ne hq, he, word_setB hl (spc_in (hQ q hm) (by decide) (by decide) (by decide)) (spc_in hx (by decide) (by decide) (by decide)) (spc_I32 hw), if_neg]
    intro e
    have : q = x := spc_inj (by omega)
    exact hn (this ▸ hm)
theorem appK_f (k : Core) (o : Bool) (Q : List Nat) (w : Nat) : (appK k o Q w).ticks = k.ticks ∧ (appK k o Q w).slice = k.slice ∧ (appK k o Q w).sslice = k.sslice ∧ (appK k o Q w).halted = k.halted ∧ (appK k o Q w).busy = k.busy ∧ (appK k o Q w).wptr = k.wptr ∧
    (appK k o Q w).pri = k.pri ∧ (appK k o Q w).sis = k.sis ∧ (appK k o Q w).swptr = k.swptr ∧ savZ (appK k o Q w) = savZ k ∧ (appK k o Q w).nobody = appK k.nobody o Q w := by
  cases o <;> cases Q <;> exact ⟨rfl, rfl, rfl, rfl, rfl, rfl, rfl, rfl, rfl, rfl, rfl⟩
theorem appK_o (k : Core) (o : Bool) (Q : List Nat) (w : Nat) : (appK k o Q w).fr (!o) = k.fr (!o) ∧ (appK k o Q w).bk (!o) = k.bk (!o) := by
  cases o <;> cases Q <;> exact ⟨rfl, rfl⟩
theorem nd_disj (h : (allQ r s H L).Nodup) {x : Nat} (hx : x ∈ L) : x ∉ H := by
  intro hh
  have h1 := (List.nodup_append.1 (List.nodup_append.1 (List.nodup_append.1 h).2.1).2.1).2.2
  exact h1 x hh x hx rfl
theorem add_h (h : Half k m r lo s H L) {w : Nat} (hw : w < 20) (hn : w ∉ allQ r s H L) :
    appR k m (spc w) = (appK k false H w, 0, appM m H w) ∧ Half (appK k false H w) (appM m H w) r lo s (H ++ [w]) L ∧ (allQ r s (H ++ [w]) L).Perm (w :: allQ r s H L) := by
  have hw5 : w < 50 := by omega
  have hnH : w ∉ H := fun hh => hn (mem_q.2 (.inr (.inr (.inl hh))))
  obtain ⟨hA, hQ, hl'⟩ := app_law (o := false) h.hl h.qh hw5 hnH
  obtain ⟨e1, e2, e3, e4, e5, e6, e7, e8, e9, e10, e11⟩ := appK_f k false H w
  obtain ⟨f1, f2⟩ := appK_o k false H w
  have hperm : (allQ r s (H ++ [w]) L).Perm (w :: allQ r s H L) := perm_of fun a => by
    rw [List.count_cons, count_tac, count_tac]
    simp only [List.count_append, List.count_cons, List.count_nil]
    omega
  refine ⟨?_, ⟨appK_ok h.ok hw5, hl', e4.trans h.hal, e1.trans h.tk, by rw [e2]; exact h.sl, by rw [e3]; exact h.ssl, fun i hi => ⟨e5.trans (h.run i hi).1, e6.trans (h.run i hi).2.1, e7.trans (h.run i hi).2.2⟩, fun hi => ⟨e5.trans (h.idle hi).1, by rw [e11, (h.idle hi).2]⟩, fun i hi => ⟨e8.trans (h.sav i hi).1, e9.trans (h.sav i hi).2⟩, fun hi => ⟨e8.trans (h.nsav hi).1, e10.trans (h.nsav hi).2⟩, hQ, h.ql.keep f1 f2 fun x hx => appM_keep h.hl h.qh.lt (h.ql.lt x hx) (nd_disj h.nd hx) hw5, nd_perm hperm (List.nodup_cons.2 ⟨hn, h.nd⟩), ?_, h.low⟩, hperm⟩
  · rw [← hA]; simp
  · intro x hx
    rcases List.mem_cons.1 (hperm.mem_iff.1 hx) with rfl | hx
    · exact hw
    · exact h.lt x hx
theorem add_l (h : Half k m r lo s H L) {w : Nat} (hw : w < 20) (hn : w ∉ allQ r s H L) :
    appR k m (spc w + 1) = (appK k true L w, 0, appM m L w) ∧ Half (appK k true L w) (appM m L w) r lo s H (L ++ [w]) ∧ (allQ r s H (L ++ [w])).Perm (w :: allQ r s H L) := by
  have hw5 : w < 50 := by omega
  have hnL : w ∉ L := fun hh => hn (mem_q.2 (.inr (.inr (.inr hh))))
  obtain ⟨hA, hQ, hl'⟩ := app_law (o := true) h.hl h.ql hw5 hnL
  obtain ⟨e1, e2, e3, e4, e5, e6, e7, e8, e9, e10, e11⟩ := appK_f k true L w
  obtain ⟨f1, f2⟩ := appK_o k true L w
  have hperm : (allQ r s H (L ++ [w])).Perm (w :: allQ r s H L) := perm_of fun a => by
    rw [List.count_cons, count_tac, count_tac]
    simp only [List.count_append, List.count_cons, List.count_nil]
    omega
  refine ⟨?_, ⟨appK_ok h.ok hw5, hl', e4.trans h.hal, e1.trans h.tk, by rw [e2]; exact h.sl, by rw [e3]; exact h.ssl, fun i hi => ⟨e5.trans (h.run i hi).1, e6.trans (h.run i hi).2.1, e7.trans (h.run i hi).2.2⟩, fun hi => ⟨e5.trans (h.idle hi).1, by rw [e11, (h.idle hi).2]⟩, fun i hi => ⟨e8.trans (h.sav i hi).1, e9.trans (h.sav i hi).2⟩, fun hi => ⟨e8.trans (h.nsav hi).1, e10.trans (h.nsav hi).2⟩, h.qh.keep f1 f2 fun x hx => appM_keep h.hl h.ql.lt (h.qh.lt x hx) (fun hh => nd_disj h.nd hh hx) hw5, hQ, nd_perm hperm (List.nodup_cons.2 ⟨hn, h.nd⟩), ?_, h.low⟩, hperm⟩
  · rw [← hA]; rfl
  · intro x hx
    rcases List.mem_cons.1 (hperm.mem_iff.1 hx) with rfl | hx
    · exact hw
    · exact h.lt x hx
theorem stop_h {i : Nat} (h : Half k m (some i) lo s H L) : waitK k m = k.nobody ∧ waitE k m = 0 ∧ waitM k m = m.set (spc i - 4) k.iptr ∧ Half k.nobody (m.set (spc i - 4) k.iptr) none false s H L := by
  obtain ⟨hb, hw, hp⟩ := h.run i rfl
  have hi : i < 20 := h.lt i (mem_q.2 (.inl rfl))
  obtain ⟨w1, w2, w3⟩ := wait_law (i := i) h.hl hb hw (by omega)
  have h' := half_set h (i := i) (by omega) h.ok.iptr
  refine ⟨w2, w1, w3, ⟨nobody_ok h.ok, h'.hl, h.hal, h.tk, by show (0 : Int) ≤ 0; decide, h.ssl, fun _ e => (by cases e), fun _ => ⟨rfl, rfl⟩, h.sav, h.nsav, h'.qh.keep rfl rfl fun _ _ => rfl, h'.ql.keep rfl rfl fun _ _ => rfl, (List.nodup_cons.1 (show (i :: allQ none s H L).Nodup from h.nd)).2, fun x hx => h.lt x (List.mem_cons_of_mem _ hx), fun _ _ _ e => (by cases e)⟩⟩
/-- What a deed does, before the core settles. -/
def deedR (k : Core) (m : Ram) (what : Nat) (w : Nat) (po : Bool) : Core × Int × Ram := match what with
  | 0 => appR k (m.set (spc w - 4) (spc w)) (spc w + bif po then 1 else 0)
  | 1 => exeR k m 15 21
  | 2 => sliR { k with slice := 64 } m
  | 3 => exeR { k with err := true } m 15 85
  | 4 => exeR k m 15 30
  | _ => exeR { k with a := spc w, b := 8 } m 15 13
theorem or_zero {i : Nat} (h : i < 50) : bits .or .i32 (spc i) 0 = spc i := by
  have : ∀ i : Fin 50, bits .or .i32 (spc i.val) 0 = spc i.val := by decide +kernel
  exact this ⟨i, h⟩
theorem half_upd {k' : Core} (h : Half k m r lo s H L) (hr : r ≠ none) (e0 : k'.ok) (e1 : k'.halted = k.halted) (e2 : k'.ticks = k.ticks) (e3 : 0 ≤ k'.slice) (e4 : k'.sslice = k.sslice) (e5 : k'.busy = k.busy) (e6 : k'.wptr = k.wptr) (e7 : k'.pri = k.pri) (e8 : k'.sis = k.sis) (e9 : k'.swptr = k.swptr)
    (e10 : savZ k' = savZ k) (f1 : ∀ o, k'.fr o = k.fr o) (f2 : ∀ o, k'.bk o = k.bk o) : Half k' m r lo s H L :=
  ⟨e0, h.hl, e1.trans h.hal, e2.trans h.tk, e3, by rw [e4]; exact h.ssl, fun i hi => ⟨e5.trans (h.run i hi).1, e6.trans (h.run i hi).2.1, e7.trans (h.run i hi).2.2⟩, fun hi => absurd hi hr, fun i hi => ⟨e8.trans (h.sav i hi).1, e9.trans (h.sav i hi).2⟩, fun hi => ⟨e8.trans (h.nsav hi).1, e10.trans (h.nsav hi).2⟩, h.qh.keep (f1 _) (f2 _) fun _ _ => rfl, h.ql.keep (f1 _) (f2 _) fun _ _ => rfl, h.nd, h.lt, h.low⟩
theorem deed_law (h : Half k m r lo s H L) (what w : Nat) (po : Bool) (hwh : what < 6) (hw : w < 20) (hr : what = 0 ∨ r ≠ none) (hn : what = 0 ∨ what = 5 → w ∉ allQ r s H L) :
    ∃ (k' : Core) (m' : Ram) (r' : Option Nat) (lo' : Bool) (s' : Option Nat) (H' L' : List Nat), deedR k m what w po = (k', 0, m') ∧ Half k' m' r' lo' s' H' L' ∧
      ∀ x, x ∈ allQ r' s' H' L' ↔ (((what = 0 ∨ what = 5) ∧ x = w) ∨ (x ∈ allQ r s H L ∧ ¬ ((what = 1 ∨ what = 3) ∧ r = some x))) := by
  have hw5 : w < 50 := by omega
  have hok := h.ok
  by_cases h0 : what = 0
  · subst h0
    have h1 := half_set h hw5 (spc_I32 hw5)
    cases po with
    | false =>
      obtain ⟨a1, a2, a3⟩ := add_h h1 hw (hn (.inl rfl))
      refine ⟨_, _, r, lo, s, H ++ [w], L, ?_, a2, fun x => ?_⟩
      · show appR k _ (spc w + 0) = _
        rw [show spc w + (0 : Int) = spc w by omega]; exact a1
      · rw [a3.mem_iff, List.mem_cons]; simp
    | true =>
      obtain ⟨a1, a2, a3⟩ := add_l h1 hw (hn (.inl rfl))
      refine ⟨_, _, r, lo, s, H, L ++ [w], a1, a2, fun x => ?_⟩
      rw [a3.mem_iff, List.mem_cons]; simp
  obtain ⟨i, rfl⟩ : ∃ i, r = some i := by
    rcases hr with h' | h'
    · exact absurd h' h0
    · cases r with
      | none => exact absurd rfl h'
      | some i => exact ⟨i, rfl⟩
  obtain ⟨hb, hwp, hp⟩ := h.run i rfl
  have hp1 : priB k.pri = true := by rw [hp]; exact (pO_one lo).2
  have hi20 : i < 20 := h.lt i (mem_q.2 (.inl rfl))
  have hnone : ∀ x, x ∈ allQ none s H L ↔ (x ∈ allQ (some i) s H L ∧ ¬ (some i = some x)) := fun x => by
    have hnd := List.nodup_cons.1 (show (i :: allQ none s H L).Nodup from h.nd)
    have e : x ∈ allQ (some i) s H L ↔ x = i ∨ x ∈ allQ none s H L := List.mem_cons (a := x) (b := i) (l := allQ none s H L)
    rw [e]
    constructor
    · intro hx
      refine ⟨.inr hx, fun e => ?_⟩
      cases e; exact hnd.1 hx
    · rintro ⟨rfl | hx, hne⟩
      · exact absurd rfl hne
      · exact hx
  by_cases h1 : what = 1
  · subst h1
    obtain ⟨w1, w2, w3, hh⟩ := stop_h h
    refine ⟨_, _, none, false, s, H, L, ?_, hh, fun x => ?_⟩
    · show exeR k m 15 21 = _
      unfold exeR
      rw [hp1, hb]
      show (waitK k m, waitE k m, waitM k m) = _
      rw [w1, w2, w3]
    · rw [hnone x]; simp
  by_cases h2 : what = 2
  · subst h2
    have h64 : Half { k with slice := 64 } m (some i) lo s H L := half_upd h (by simp) (slice_ok hok (by unfold I32; decide)) rfl rfl (by show (0 : Int) ≤ 64; decide) rfl rfl rfl rfl rfl rfl rfl (fun _ => rfl) (fun _ => rfl)
    cases lo with
    | false =>
      refine ⟨_, m, some i, false, s, H, L, ?_, h64, fun x => by simp⟩
      show sliR { k with slice := 64 } m = _
      have hp' : k.pri = 0 := hp
      unfold sliR
      show (bif !priB k.pri then _ else bif (bif bif bif !k.busy then true else k.pri == 0 then true else _ then true else _) then _ else _) = _
      rw [hp', hb]; rfl
    | true =>
      by_cases hL : L = []
      · subst hL
        have hf1 : k.f1 = NP := h.ql.f
        refine ⟨_, m, some i, true, s, H, [], ?_, h64, fun x => by simp⟩
        show sliR { k with slice := 64 } m = _
        have hp' : k.pri = 1 := hp
        unfold sliR
        show (bif !priB k.pri then _ else bif (bif bif bif !k.busy then true else k.pri == 0 then true else decide ((64 : Int) < 64) then true else k.f1 == NP) then _ else _) = _
        rw [hp', hb, hf1]; rfl
      · obtain ⟨m', hS, _, _, hm'⟩ := sli_law (k := { k with slice := 64 }) h.hl hb hp (by show (64 : Int) ≤ 64; decide) hwp (by omega) h64.ql hL (fun hh => (List.nodup_cons.1 (show (i :: allQ none s H L).Nodup from h.nd)).1 (mem_q.2 (.inr (.inr (.inr hh))))) hok.iptr
        obtain ⟨_, _, _, hh⟩ := stop_h h64
        obtain ⟨_, a2, a3⟩ := add_l hh hi20 (List.nodup_cons.1 (show (i :: allQ none s H L).Nodup from h.nd)).1
        refine ⟨_, m', none, false, s, H, L ++ [i], hS, by rw [hm']; exact a2, fun x => ?_⟩
        rw [a3.mem_iff, List.mem_cons, hnone x]
        constructor
        · rintro (rfl | ⟨hx, _⟩)
          · exact .inr ⟨mem_q.2 (.inl rfl), by simp⟩
          · exact .inr ⟨hx, by simp⟩
        · rintro (⟨h, _⟩ | ⟨hx, _⟩)
          · simp at h
          · by_cases hxi : x = i
            · exact .inl hxi
            · exact .inr ⟨hx, fun e => by cases e; exact hxi rfl⟩
  by_cases h3 : what = 3
  · subst h3
    have he : Half { k with err := true } m (some i) lo s H L := half_upd h (by simp) (err_ok hok) rfl rfl h.sl rfl rfl rfl rfl rfl rfl rfl (fun _ => rfl) (fun _ => rfl)
    obtain ⟨k2, hk2⟩ : ∃ k2 : Core, { k with err := true } = k2 := ⟨_, rfl⟩
    have hp2 : priB k2.pri = true := by rw [← hk2]; exact hp1
    have hb2 : k2.busy = true := by rw [← hk2]; exact hb
    have he2 : k2.err = true := by rw [← hk2]
    rw [hk2] at he
    obtain ⟨w1, w2, w3, hh⟩ := stop_h he
    refine ⟨_, _, none, false, s, H, L, ?_, hh, fun x => ?_⟩
    · show exeR { k with err := true } m 15 85 = _
      rw [hk2]
      unfold exeR
      rw [hp2, hb2]
      show steR k2 m = _
      unfold steR
      rw [he2, cond_true, w1, w2, w3]
    · rw [hnone x]; simp
  by_cases h4 : what = 4
  · subst h4
    have hl : Half (ldpK k) m (some i) lo s H L := by
      have hok' : (ldpK k).ok := by constructor <;> first | exact I32_wrap _ | exact hok.a | exact hok.b | exact hok.iptr | exact hok.wptr | exact hok.pri | exact hok.f0 | exact hok.f1 | exact hok.b0 | exact hok.b1 | exact hok.t0 | exact hok.t1 | exact hok.k0 | exact hok.k1 | exact hok.ticks | exact hok.slice | exact hok.sa | exact hok.sb | exact hok.sc | exact hok.siptr | exact hok.swptr | exact hok.sslice
      exact half_upd h (by simp) hok' rfl rfl h.sl rfl rfl rfl rfl rfl rfl rfl (fun _ => rfl) (fun _ => rfl)
    refine ⟨_, m, some i, lo, s, H, L, ?_, hl, fun x => by simp⟩
    show exeR k m 15 30 = _
    unfold exeR
    rw [hp1, hb]; rfl
  have h5 : what = 5 := by omega
  subst h5
  have hn' := hn (.inr rfl)
  obtain ⟨k2, hk2⟩ : ∃ k2 : Core, { k with a := spc w, b := 8 } = k2 := ⟨_, rfl⟩
  have h2 : Half k2 m (some i) lo s H L := by
    rw [← hk2]
    have hab : ({ k with a := spc w, b := 8 } : Core).ok := by constructor <;> first | exact spc_I32 hw5 | exact ⟨by show (-2147483648 : Int) ≤ 8; decide, by show (8 : Int) ≤ 2147483647; decide⟩ | exact hok.c | exact hok.iptr | exact hok.wptr | exact hok.pri | exact hok.f0 | exact hok.f1 | exact hok.b0 | exact hok.b1 | exact hok.t0 | exact hok.t1 | exact hok.k0 | exact hok.k1 | exact hok.ticks | exact hok.slice | exact hok.sa | exact hok.sb | exact hok.sc | exact hok.siptr | exact hok.swptr | exact hok.sslice
    exact half_upd h (by simp) hab rfl rfl h.sl rfl rfl rfl rfl rfl rfl rfl (fun _ => rfl) (fun _ => rfl)
  have g1 : k2.a = spc w := by rw [← hk2]
  have g2 : k2.b = 8 := by rw [← hk2]
  have g3 : k2.iptr = k.iptr := by rw [← hk2]
  obtain ⟨g4, _, g5⟩ := h2.run i rfl
  have hp2 : priB k2.pri = true := by rw [g5]; exact (pO_one lo).2
  have h1 : Half k2.clear (m.set (spc w - 4) (IntKind.i32.wrap (k.iptr + 8))) (some i) lo s H L :=
    half_set (half_upd h2 (by simp) (clear_ok h2.ok) rfl rfl h2.sl rfl rfl rfl rfl rfl rfl rfl (fun _ => rfl) (fun _ => rfl)) hw5 (I32_wrap _)
  cases lo with
  | false =>
    obtain ⟨a1, a2, a3⟩ := add_h h1 hw hn'
    have hp' : k2.pri = 0 := g5
    refine ⟨_, _, some i, false, s, H ++ [w], L, ?_, a2, fun x => ?_⟩
    · show exeR { k with a := spc w, b := 8 } m 15 13 = _
      rw [hk2]
      unfold exeR
      rw [hp2, g4]
      show stpR k2 m = _
      unfold stpR
      have hB' : (bif !validB m (spc w) then true else bif !(k2.f0 == NP) then !validB m k2.b0 else false) = false := by
        rw [spc_valid h.hl hw5]
        have hf : k2.f0 = fstQ H := h2.qh.f
        have hb0 : k2.b0 = lstQ H := h2.qh.b
        by_cases hH : H = []
        · subst hH; rw [hf]; rfl
        · obtain ⟨q, hq, hqe⟩ := lstQ_mem hH
          rw [hb0, hqe, spc_valid h.hl (h.qh.lt q hq)]
          cases (k2.f0 == NP) <;> rfl
      rw [hp', g1, g2, g3, show k2.fr ((0 : Int) == 1) = k2.f0 from rfl, show k2.bk ((0 : Int) == 1) = k2.b0 from rfl, hB', cond_false, wrap4 hw5, or_zero hw5]
      exact a1
    · rw [a3.mem_iff, List.mem_cons]; simp
  | true =>
    obtain ⟨a1, a2, a3⟩ := add_l h1 hw hn'
    have hp' : k2.pri = 1 := g5
    refine ⟨_, _, some i, true, s, H, L ++ [w], ?_, a2, fun x => ?_⟩
    · show exeR { k with a := spc w, b := 8 } m 15 13 = _
      rw [hk2]
      unfold exeR
      rw [hp2, g4]
      show stpR k2 m = _
      unfold stpR
      have hB' : (bif !validB m (spc w) then true else bif !(k2.f1 == NP) then !validB m k2.b1 else false) = false := by
        rw [spc_valid h.hl hw5]
        have hf : k2.f1 = fstQ L := h2.ql.f
        have hb0 : k2.b1 = lstQ L := h2.ql.b
        by_cases hH : L = []
        · subst hH; rw [hf]; rfl
        · obtain ⟨q, hq, hqe⟩ := lstQ_mem hH
          rw [hb0, hqe, spc_valid h.hl (h.ql.lt q hq)]
          cases (k2.f1 == NP) <;> rfl
      rw [hp', g1, g2, g3, show k2.fr ((1 : Int) == 1) = k2.f1 from rfl, show k2.bk ((1 : Int) == 1) = k2.b1 from rfl, hB', cond_false, wrap4 hw5, or_one hw5]
      exact a1
    · rw [a3.mem_iff, List.mem_cons]; simp
end
end Go.Proofs

namespace Go.Proofs
open Go Go.Sx
set_option maxRecDepth 10000
/-- Several ways come to the same code, with different values. -/
theorem c_merges {α : Type} (p : α → Prop) {X : Cx} {c : Code} {Q : Exit → Act → World → Prop} {c' : Code} {Q' : Exit → Act → World → Prop} {fr : Fr} {σ : List Ch} (fr' : α → Fr) (σ' : α → List Ch) (ways : (∀ x, p x → WpC X c' Q' (fr' x) (σ' x)) → WpC X c Q fr σ) (cont : ∀ x, p x → WpC X c' Q' (fr' x) (σ' x)) : WpC X c Q fr σ := ways cont
noncomputable abbrev ctPl : CT := [(f_sched_Queue, eQueue)]
theorem ctPl_ok : CTok Try.prog ctPl := ⟨con_ok cal_sched_Queue _, trivial⟩
theorem spc_beq {x y : Nat} : (spc x == spc y) = (x == y) := by
  rw [Bool.eq_iff_iff, beq_iff_eq, beq_iff_eq]
  exact ⟨spc_inj, fun e => by rw [e]⟩
def one (b : Bool) : Int := bif b then 1 else 0
theorem one_le (b : Bool) : 0 ≤ one b ∧ one b ≤ 1 := by cases b <;> exact ⟨by decide, by decide⟩
theorem opt_count (r : Option Nat) (x : Nat) : ((r.toList.count x : Nat) : Int) = one (r == some x) := by
  cases r with
  | none => rfl
  | some i =>
    by_cases h : i = x
    · subst h; simp [one]
    · have e : (some i == some x) = false := by simp [h]
      rw [e]; simp [one, h, List.count_cons]
theorem count_le_one {Q : List Nat} (h : Q.Nodup) (x : Nat) : Q.count x ≤ 1 := List.nodup_iff_count.1 h x
theorem nodup_le : ∀ (n : Nat) (Q : List Nat), Q.Nodup → (∀ x ∈ Q, x < n) → Q.length ≤ n
  | 0, Q, _, h => by
    cases Q with
    | nil => exact Nat.le_refl _
    | cons a t => exact absurd (h a (by simp)) (by omega)
  | n + 1, Q, hn, h => by
    by_cases hm : n ∈ Q
    · have := nodup_le n (Q.erase n) (hn.erase n) fun x hx => by
        have h1 := (hn.mem_erase_iff).1 hx
        have := h x h1.2
        omega
      rw [List.length_erase_of_mem hm] at this
      omega
    · have := nodup_le n Q hn fun x hx => by
        have := h x hx
        have : x ≠ n := fun e => hm (e ▸ hx)
        omega
      omega
set_option maxHeartbeats 2000000 in
theorem places_c {k : Core} {m : Ram} {r : Option Nat} {lo : Bool} {s : Option Nat} {H L : List Nat} (h : Half k m r lo s H L) (x : Nat) : Con Try.prog f_l29_places [.agg k.sv, .s (.loc 0 0), .s (.int .i32 (spc x))] [mBox m.l.length, mOwn m.l]
    (.ret (.t (.s (.int .i64 ((allQ r s H L).count x : Nat)))) [mBox m.l.length, mOwn m.l]) := by
  intro K hK
  have hr : (bif k.busy then k.wptr == spc x else false) = (r == some x) := by
    cases r with
    | none => rw [(h.idle rfl).1]; rfl
    | some i =>
      rw [(h.run i rfl).1, (h.run i rfl).2.1]
      show (spc i == spc x) = _
      rw [spc_beq]; rfl
  have hs : (bif k.sis then k.swptr == spc x else false) = (s == some x) := by
    cases s with
    | none => rw [(h.nsav rfl).1]; rfl
    | some i =>
      rw [(h.sav i rfl).1, (h.sav i rfl).2]
      show (spc i == spc x) = _
      rw [spc_beq]; rfl
  have hcnt : ((allQ r s H L).count x : Int) = one (r == some x) + (one (s == some x) + ((H.count x : Nat) + (L.count x : Nat))) := by
    rw [count_tac, ← opt_count, ← opt_count]; omega
  rw [hcnt] at hK
  have hc1 := count_le_one h.qh.nd x
  have hc2 := count_le_one h.ql.nd x
  have hb1 := one_le (r == some x)
  have hb2 := one_le (s == some x)
  refine enter fn_l29_places rfl nt_l29_places rfl rfl (fun φ w0 β0 F => ?_)
  apply c_merges (α := Int) (fun n => n = one (r == some x) + one (s == some x))
    (fun n => [(1, .t (.s (.loc 0 0)), none), (2, .t (.s (.int .i32 (spc x))), none), (3, .t (.s (.loc 2 0)), none), (7, .t (.s (.int .i64 n)), none), (8, .t (.s (.int .i64 0)), none)])
    (fun _ => [mBox m.l.length, mOwn m.l, .blk 32 k.sv])
  case ways =>
    intro key
    refine c_run tt_ok ctPl_ok k_l29_places [100019, 100031] 90 (by kernel_rfl) ?_
    refine ⟨.t (.s (.bool (r == some x))), fun β => told_bl hr, rfl, ?_⟩
    refine ⟨fun e1 => ?_, fun e1 => ?_⟩
    · refine ⟨.t (.s (.bool (s == some x))), fun β => told_bl hs, rfl, ?_⟩
      refine ⟨fun e2 => ?_, fun e2 => ?_⟩
      · refine WpC.into ?_ (key _ rfl)
        rw [e1, e2]
        exact into [0, 1, 2] ⟨⟨_, rfl, rfl⟩, ⟨_, rfl, rfl⟩, ⟨_, rfl, rfl⟩, ⟨_, rfl, rfl⟩, ⟨_, rfl, rfl⟩, trivial⟩ ⟨_, rfl, rfl⟩ rfl rfl rfl rfl
      · refine WpC.into ?_ (key _ rfl)
        rw [e1, e2]
        exact into [0, 1, 2] ⟨⟨_, rfl, rfl⟩, ⟨_, rfl, rfl⟩, ⟨_, rfl, rfl⟩, ⟨_, rfl, rfl⟩, ⟨_, rfl, rfl⟩, trivial⟩ ⟨_, rfl, rfl⟩ rfl rfl rfl rfl
    · refine ⟨.t (.s (.bool (s == some x))), fun β => told_bl hs, rfl, ?_⟩
      refine ⟨fun e2 => ?_, fun e2 => ?_⟩
      · refine WpC.into ?_ (key _ rfl)
        rw [e1, e2]
        exact into [0, 1, 2] ⟨⟨_, rfl, rfl⟩, ⟨_, rfl, rfl⟩, ⟨_, rfl, rfl⟩, ⟨_, rfl, rfl⟩, ⟨_, rfl, rfl⟩, trivial⟩ ⟨_, rfl, rfl⟩ rfl rfl rfl rfl
      · refine WpC.into ?_ (key _ rfl)
        rw [e1, e2]
        exact into [0, 1, 2] ⟨⟨_, rfl, rfl⟩, ⟨_, rfl, rfl⟩, ⟨_, rfl, rfl⟩, ⟨_, rfl, rfl⟩, ⟨_, rfl, rfl⟩, trivial⟩ ⟨_, rfl, rfl⟩ rfl rfl rfl rfl
  intro n0 hn0
  have hn02 : 0 ≤ n0 ∧ n0 ≤ 2 := by omega
  rw [show one (r == some x) + (one (s == some x) + ((H.count x : Nat) + (L.count x : Nat))) = n0 + (H.count x : Nat) + ((L.count x : Nat) : Int) by omega] at hK
  dsimp only
  refine c_loop (α := Nat × Int) (fun y => (y.1 = 0 ∧ y.2 = n0) ∨ (y.1 = 1 ∧ y.2 = n0 + (H.count x : Nat)) ∨ (y.1 = 2 ∧ y.2 = n0 + (H.count x : Nat) + (L.count x : Nat))) (fun y => 2 - y.1)
    (fun y => [(1, .t (.s (.loc 0 0)), none), (2, .t (.s (.int .i32 (spc x))), none), (3, .t (.s (.loc 2 0)), none), (7, .t (.s (.int .i64 y.2)), none), (8, .t (.s (.int .i64 (y.1 : Int))), none)])
    (fun _ => [mBox m.l.length, mOwn m.l, .blk 32 k.sv]) (0, n0) (.inl ⟨rfl, rfl⟩) ?_ ?_
  · exact into [0, 1, 2] ⟨⟨_, rfl, rfl⟩, ⟨_, rfl, rfl⟩, ⟨_, rfl, rfl⟩, ⟨_, rfl, rfl⟩, ⟨_, rfl, rfl⟩, trivial⟩ ⟨_, rfl, rfl⟩ rfl rfl rfl rfl
  rintro ⟨p, n⟩ hp
  simp only at hp
  dsimp only
  by_cases hp2 : p = 2
  · have hn : n = n0 + (H.count x : Nat) + (L.count x : Nat) := by omega
    subst hp2
    subst hn
    refine c_run' tt_ok ctPl_ok k_l29_places [] 90 (by kernel_rfl) (by kernel_rfl) ?_
    refine ⟨fun e => absurd e (by decide), fun _ => ?_⟩
    exact fin_k tt_ok (rs := rs_l29_places) rfl rfl hK [0, 1] rfl rfl rfl rfl rfl rfl
  obtain ⟨o, Q, hpo, hQ, hinv⟩ : ∃ (o : Bool) (Q : List Nat), (p : Int) = pO o ∧ QI k m o Q ∧ ((p + 1 = 1 ∧ n + (Q.count x : Nat) = n0 + (H.count x : Nat)) ∨ (p + 1 = 2 ∧ n + (Q.count x : Nat) = n0 + (H.count x : Nat) + (L.count x : Nat))) := by
    rcases hp with ⟨rfl, rfl⟩ | ⟨rfl, rfl⟩ | ⟨rfl, rfl⟩
    · exact ⟨false, H, rfl, h.qh, .inl ⟨rfl, rfl⟩⟩
    · exact ⟨true, L, rfl, h.ql, .inr ⟨rfl, rfl⟩⟩
    · exact absurd rfl hp2
  have hnr : 0 ≤ n ∧ n ≤ 4 := by omega
  have hp1 : p ≤ 1 := by omega
  have hlen : Q.length ≤ 50 := nodup_le 50 Q hQ.nd hQ.lt
  have hlm : (Q.map spc).length = Q.length := List.length_map ..
  have hq := que_law h.hl hQ (by omega)
  rw [← hpo] at hq
  refine c_run' tt_ok ctPl_ok k_l29_places [] 90 (by kernel_rfl) (by kernel_rfl) ?_
  refine ⟨fun _ => ?_, fun e => absurd (of_decide_eq_false e) (by omega)⟩
  refine ⟨(m, Q.map spc, 0), ⟨rfl, rfl, rfl, rfl, ⟨h.ok, by omega, by omega⟩, hq⟩, fun cq hcq => ?_⟩
  refine ⟨fun e => absurd (show ((0 : Int) != 0) = true from e) (by decide), fun _ => ?_⟩
  show WpC _ _ _ _ _
  refine c_loop (α := Nat × Int) (fun y => y.1 ≤ Q.length ∧ y.2 = n + ((Q.take y.1).count x : Nat)) (fun y => Q.length - y.1)
    (fun y => [(1, .t (.s (.loc 0 0)), none), (2, .t (.s (.int .i32 (spc x))), none), (3, .t (.s (.loc 2 0)), none), (7, .t (.s (.int .i64 y.2)), none), (8, .t (.s (.int .i64 (p : Int))), none), (9, .t (.s (.sl 3 0 Q.length cq)), none), (11, .t (.s (.int .i64 (y.1 : Int))), none)])
    (fun _ => [mBox m.l.length, mOwn m.l, .blk 32 k.sv, .own 21 1 cq (qV (Q.map spc))]) (0, n) ⟨Nat.zero_le _, by simp⟩ ?_ ?_
  · exact into [0, 1, 2, 3] ⟨⟨_, rfl, rfl⟩, ⟨_, rfl, rfl⟩, ⟨_, rfl, rfl⟩, ⟨_, rfl, rfl⟩, ⟨_, rfl, rfl⟩, ⟨_, rfl, by dsimp only; rw [hlm]; rfl⟩, ⟨_, rfl, rfl⟩, trivial⟩ ⟨_, rfl, rfl⟩ rfl rfl rfl rfl
  rintro ⟨i, n'⟩ ⟨hi, hn'⟩
  simp only at hi hn'
  dsimp only
  have hct : (Q.take i).count x ≤ Q.count x := (List.take_sublist i Q).count_le x
  have hcQ := count_le_one hQ.nd x
  refine c_run' tt_ok ctPl_ok k_l29_places [] 90 (by kernel_rfl) (by kernel_rfl) ?_
  refine ⟨fun h1 => ?_, fun h1 => ?_⟩
  · have hlt : i < Q.length := by have := of_decide_eq_true h1; omega
    obtain ⟨a, ha⟩ : ∃ a, Q[i]? = some a := ⟨_, List.getElem?_eq_getElem hlt⟩
    have htake : (Q.take (i + 1)).count x = (Q.take i).count x + (if a = x then 1 else 0) := by
      rw [List.take_add_one, ha, List.count_append]
      simp [List.count_cons]
    refine ⟨i, ⟨rfl, hlt, by rw [qV_len, hlm]; simp only [Nat.zero_add, Nat.mul_one]; omega⟩, .int .i32 (spc a), rfl, by show (qV (Q.map spc))[0 + i * 1]? = _; rw [Nat.zero_add, Nat.mul_one]; exact qV_at (by rw [List.getElem?_map, ha]; rfl), ?_⟩
    refine ⟨fun h2 => ?_, fun h2 => ?_⟩
    · have hax : a = x := spc_inj (by simpa using h2)
      rw [if_pos hax] at htake
      have hw : IntKind.i64.wrap (n' + 1) = n' + 1 := wrap64 (by omega) (by omega)
      exact e_again (i + 1, n' + 1) ⟨by show i + 1 ≤ _; omega, by show n' + 1 = _; rw [htake]; omega⟩ (by show Q.length - (i + 1) < Q.length - i; omega) (into [0, 1, 2, 3] ⟨⟨_, rfl, rfl⟩, ⟨_, rfl, rfl⟩, ⟨_, rfl, rfl⟩, ⟨_, rfl, fvi hw⟩, ⟨_, rfl, rfl⟩, ⟨_, rfl, rfl⟩, ⟨_, rfl, fvi (wrapSucc (by omega))⟩, trivial⟩ ⟨_, rfl, rfl⟩ rfl rfl rfl rfl)
    · have hax : ¬ a = x := fun e => by subst e; simp at h2
      rw [if_neg hax] at htake
      exact e_again (i + 1, n') ⟨by show i + 1 ≤ _; omega, by show n' = _; rw [htake]; omega⟩ (by show Q.length - (i + 1) < Q.length - i; omega) (into [0, 1, 2, 3] ⟨⟨_, rfl, rfl⟩, ⟨_, rfl, rfl⟩, ⟨_, rfl, rfl⟩, ⟨_, rfl, rfl⟩, ⟨_, rfl, rfl⟩, ⟨_, rfl, rfl⟩, ⟨_, rfl, fvi (wrapSucc (by omega))⟩, trivial⟩ ⟨_, rfl, rfl⟩ rfl rfl rfl rfl)
  · have hz : i = Q.length := by have := of_decide_eq_false h1; omega
    subst hz
    rw [List.take_length] at hn'
    exact e_again (p + 1, n') (by show (p + 1 = 0 ∧ n' = n0) ∨ _ ∨ _; rw [hn']; rcases hinv with ⟨e1, e2⟩ | ⟨e1, e2⟩; exact .inr (.inl ⟨e1, e2⟩); exact .inr (.inr ⟨e1, e2⟩)) (by show 2 - (p + 1) < 2 - p; omega) (into [0, 1, 2] ⟨⟨_, rfl, rfl⟩, ⟨_, rfl, rfl⟩, ⟨_, rfl, rfl⟩, ⟨_, rfl, rfl⟩, ⟨_, rfl, fvi (wrapSucc (by omega))⟩, trivial⟩ ⟨_, rfl, rfl⟩ rfl rfl rfl rfl)
noncomputable abbrev ePlaces : Ent := .st (conS (P := Try.prog) (f := f_l29_places) fun cargs σ0 => match cargs, σ0 with
  | [.agg cs, .s (.loc 0 0), .s (.int .i32 w)], [.blk 52 [.sl 1 0 n n'], .own 5 1 c xs] => withCore cs fun k hk => some ⟨.ex (Ram × Nat × Nat) fun p => .ask (n = p.1.l.length ∧ n' = p.1.l.length ∧ c = p.1.l.length ∧ xs = bytesI p.1.l ∧ w = spc p.2.1 ∧ ∃ r lo s H L, Half k p.1 r lo s H L ∧ (allQ r s H L).count p.2.1 = p.2.2)
      (.ret (.t (.s (.int .i64 (p.2.2 : Nat)))) [mBox p.1.l.length, mOwn p.1.l]), fun K h => by
      obtain ⟨⟨m, x, q⟩, ⟨e1, e2, e3, e4, h1, r, lo, s, H, L, h2, h3⟩, h⟩ := h
      dsimp only at e1 e2 e3 e4 h1 h2 h3 h
      subst e1; subst e2; subst e3; subst e4; subst hk; subst h1
      refine places_c h2 x K ?_
      rw [h3]; exact h⟩
  | _, _ => none)
end Go.Proofs

namespace Go.Proofs
open Go Go.Sx
set_option maxRecDepth 10000
noncomputable abbrev ctDe : CT := [(f_mem_Mem_SetWord, eSetWordT), (f_sched_Append, eAppend), (f_sched_Settle, eSettle), (f_sched_Slice, eSlice), (f_sched_Exec, eExec), (f_l29_op, in_l29_op []), (f_l29_space, eSpace), (f_l29_places, ePlaces)]
theorem ctDe_ok : CTok Try.prog ctDe := ⟨con_ok cal_mem_Mem_SetWord _, con_ok cal_sched_Append _, con_ok cal_sched_Settle _, con_ok cal_sched_Slice _, con_ok cal_sched_Exec _, in_l29_op_ok (ct := []) trivial, con_ok cal_l29_space _, con_ok cal_l29_places _, trivial⟩
theorem ab_ok {k : Core} (hok : k.ok) {v : Int} (hv : I32 v) : ({ k with a := v, b := 8 } : Core).ok := by
  constructor <;> first | exact hv | exact ⟨by show (-2147483648 : Int) ≤ 8; decide, by show (8 : Int) ≤ 2147483647; decide⟩ | exact hok.c | exact hok.iptr | exact hok.wptr | exact hok.pri | exact hok.f0 | exact hok.f1 | exact hok.b0 | exact hok.b1 | exact hok.t0 | exact hok.t1 | exact hok.k0 | exact hok.k1 | exact hok.ticks | exact hok.slice | exact hok.sa | exact hok.sb | exact hok.sc | exact hok.siptr | exact hok.swptr | exact hok.sslice
/-- The deed is not done. -/
def noDeed (W : Nat) (busy : Bool) (cnt : Nat) : Bool := bif (bif decide (W > 0) then !busy else false) then true else (bif (bif W == 0 then true else W == 5) then !(cnt == 0) else false)
/-- A deed, settled. -/
def deedS (k : Core) (m : Ram) (W w : Nat) (po : Bool) (cnt : Nat) : Core × Ram :=
  bif noDeed W k.busy cnt then (k, m) else ((setR (deedR k m W w po).1 (deedR k m W w po).2.2).1, (deedR k m W w po).2.2)
set_option maxHeartbeats 4000000 in
theorem deed_0 {k : Core} {m : Ram} {r : Option Nat} {lo : Bool} {s : Option Nat} {H L : List Nat} (h : Half k m r lo s H L) (a b c : Int) (w : Nat) (po : Bool) (k' : Core) (m' : Ram) (hW : a.tmod 6 = 0) (hw : IntKind.i64.wrap (b.tmod 20) = (w : Int)) (hw20 : w < 20) (hpo : c.tmod 2 = bif po then 1 else 0)
    (hx : deedS k m 0 w po ((allQ r s H L).count w) = (k', m')) : Con Try.prog f_l29_deed [.agg k.sv, .s (.loc 0 0), .agg [.int .u8 a, .int .u8 b, .int .u8 c]] [mBox m.l.length, mOwn m.l]
    (.ret (.tup [.agg k'.sv, .s (.bool true)]) [mBox m'.l.length, mOwn m'.l]) := by
  intro K hK
  obtain ⟨cnt, hcnt⟩ : ∃ n, (allQ r s H L).count w = n := ⟨_, rfl⟩
  rw [hcnt] at hx
  unfold deedS at hx
  have hok := h.ok
  have hw50 : w < 50 := by omega
  have hc0 : (((cnt : Nat) : Int) == 0) = (cnt == 0) := by
    cases h0 : (cnt == 0) <;> simp at h0 ⊢ <;> omega
  refine enter fn_l29_deed rfl nt_l29_deed rfl rfl (fun φ w0 β0 F => ?_)
  refine c_run tt_ok ctDe_ok k_l29_deed [100025, 100044] 90 (by kernel_rfl) ?_
  refine ⟨w, ⟨hw, hw50⟩, ?_⟩
  refine ⟨(m, w, cnt), ⟨rfl, rfl, rfl, rfl, rfl, r, lo, s, H, L, h, hcnt⟩, ?_⟩
  refine ⟨.t (.s (.int .u8 0)), fun β => told_i hW, rfl, ?_⟩
  refine ⟨.t (.s (.bool (noDeed 0 k.busy cnt))), fun β => told_bl (by unfold noDeed; simp only [hc0]; cases k.busy <;> cases (cnt == 0) <;> rfl), rfl, ?_⟩
  refine ⟨fun hg => ?_, fun hg => ?_⟩
  · rw [hg, cond_true] at hx
    cases hx
    exact fin_k tt_ok (rs := rs_l29_deed) rfl rfl hK [0, 1] rfl rfl rfl rfl rfl rfl
  · rw [hg, cond_false] at hx
    have hr : (0 : Nat) = 0 ∨ r ≠ none := by
      exact .inl rfl
    have hn : (0 : Nat) = 0 ∨ (0 : Nat) = 5 → w ∉ allQ r s H L := by
      intro _ hm
      have hc : cnt ≠ 0 := by rw [← hcnt]; exact Nat.pos_iff_ne_zero.1 (List.count_pos_iff.2 hm)
      have hc' : (cnt == 0) = false := by simpa using hc
      unfold noDeed at hg
      rw [hc'] at hg
      exact absurd hg (by cases k.busy <;> decide)
    obtain ⟨k2, m2, r2, lo2, s2, H2, L2, hD, h2, _⟩ := deed_law h 0 w po (by decide) hw20 hr hn
    obtain ⟨k3, r3, lo3, s3, H3, L3, hS, h3, _, _⟩ := settle_law h2
    rw [hD] at hx
    dsimp only at hx
    rw [hS] at hx
    obtain ⟨e1, e2⟩ := Prod.mk.inj hx
    subst e1
    subst e2
    have hok2 := h2.ok
    refine ⟨fun _ => ?_, fun e => absurd e (by decide)⟩
    have e4 : IntKind.i32.wrap (spc w - 4) = spc w - 4 := by rw [IntKind.wrap_i32]; unfold spc; omega
    have ed : IntKind.i32.wrap (spc w + IntKind.i32.wrap (c.tmod 2)) = spc w + bif po then 1 else 0 := by
      rw [hpo]; simp only [IntKind.wrap_i32]; cases po <;> simp <;> unfold spc <;> omega
    have hA : appR k (m.set (IntKind.i32.wrap (spc w - 4)) (spc w)) (IntKind.i32.wrap (spc w + IntKind.i32.wrap (c.tmod 2))) = (k2, 0, m2) := by rw [e4, ed]; exact hD
    refine ⟨m, ⟨rfl, rfl, rfl, rfl, I32_wrap _⟩, ?_⟩
    refine ⟨(m.set (IntKind.i32.wrap (spc w - 4)) (spc w), k2, 0, m2), ⟨rfl, rfl, rfl, rfl, ⟨hok, I32_wrap _⟩, hA⟩, ?_⟩
    refine ⟨fun e => absurd (show ((0 : Int) != 0) = true from e) (by decide), fun _ => ?_⟩
    refine ⟨(m2, k3, 0), ⟨rfl, rfl, rfl, rfl, hok2, hS⟩, ?_⟩
    exact fin_k tt_ok (rs := rs_l29_deed) rfl rfl hK [0, 1] rfl rfl rfl rfl rfl rfl
set_option maxHeartbeats 4000000 in
theorem deed_1 {k : Core} {m : Ram} {r : Option Nat} {lo : Bool} {s : Option Nat} {H L : List Nat} (h : Half k m r lo s H L) (a b c : Int) (w : Nat) (po : Bool) (k' : Core) (m' : Ram) (hW : a.tmod 6 = 1) (hw : IntKind.i64.wrap (b.tmod 20) = (w : Int)) (hw20 : w < 20) (hpo : c.tmod 2 = bif po then 1 else 0)
    (hx : deedS k m 1 w po ((allQ r s H L).count w) = (k', m')) : Con Try.prog f_l29_deed [.agg k.sv, .s (.loc 0 0), .agg [.int .u8 a, .int .u8 b, .int .u8 c]] [mBox m.l.length, mOwn m.l]
    (.ret (.tup [.agg k'.sv, .s (.bool true)]) [mBox m'.l.length, mOwn m'.l]) := by
  intro K hK
  obtain ⟨cnt, hcnt⟩ : ∃ n, (allQ r s H L).count w = n := ⟨_, rfl⟩
  rw [hcnt] at hx
  unfold deedS at hx
  have hok := h.ok
  have hw50 : w < 50 := by omega
  have hc0 : (((cnt : Nat) : Int) == 0) = (cnt == 0) := by
    cases h0 : (cnt == 0) <;> simp at h0 ⊢ <;> omega
  refine enter fn_l29_deed rfl nt_l29_deed rfl rfl (fun φ w0 β0 F => ?_)
  refine c_run tt_ok ctDe_ok k_l29_deed [100025, 100044] 90 (by kernel_rfl) ?_
  refine ⟨w, ⟨hw, hw50⟩, ?_⟩
  refine ⟨(m, w, cnt), ⟨rfl, rfl, rfl, rfl, rfl, r, lo, s, H, L, h, hcnt⟩, ?_⟩
  refine ⟨.t (.s (.int .u8 1)), fun β => told_i hW, rfl, ?_⟩
  refine ⟨.t (.s (.bool (noDeed 1 k.busy cnt))), fun β => told_bl (by unfold noDeed; simp only [hc0]; cases k.busy <;> cases (cnt == 0) <;> rfl), rfl, ?_⟩
  refine ⟨fun hg => ?_, fun hg => ?_⟩
  · rw [hg, cond_true] at hx
    cases hx
    exact fin_k tt_ok (rs := rs_l29_deed) rfl rfl hK [0, 1] rfl rfl rfl rfl rfl rfl
  · rw [hg, cond_false] at hx
    have hr : (1 : Nat) = 0 ∨ r ≠ none := by
      refine .inr fun e => ?_
      rw [(h.idle e).1] at hg
      exact absurd hg (by unfold noDeed; cases (cnt == 0) <;> decide)
    have hn : (1 : Nat) = 0 ∨ (1 : Nat) = 5 → w ∉ allQ r s H L := by
      intro e; omega
    obtain ⟨k2, m2, r2, lo2, s2, H2, L2, hD, h2, _⟩ := deed_law h 1 w po (by decide) hw20 hr hn
    obtain ⟨k3, r3, lo3, s3, H3, L3, hS, h3, _, _⟩ := settle_law h2
    rw [hD] at hx
    dsimp only at hx
    rw [hS] at hx
    obtain ⟨e1, e2⟩ := Prod.mk.inj hx
    subst e1
    subst e2
    have hok2 := h2.ok
    refine ⟨fun e => absurd e (by decide), fun _ => ?_⟩
    refine ⟨fun _ => ?_, fun e => absurd e (by decide)⟩
    show WpC _ _ _ _ _
    refine c_merge [(1, .t (.s (.loc 0 0)), none), (3, .t (.s (.loc 2 0)), none), (6, .t (.s (.loc 4 0)), none), (10, .t (.s (.int .i64 0)), none), (12, .t (.s (.loc 5 0)), none)]
      [.blk 52 [.sl 1 0 m2.l.length m2.l.length], mOwn m2.l, .blk 32 k.sv, .blk 56 [.int .u8 a, .int .u8 b, .int .u8 c], .blk 32 Core.zero.sv, .blk 32 k2.sv] (fun key => ?ways) ?cont
    case ways =>
      refine c_waysH tt_ok ctDe_ok k_l29_deed [2] rfl rfl rfl ?_
      repeat' (first | exact trivial | exact ⟨rfl, trivial⟩ | (refine Exists.intro (m, k2, 0, m2) ?_; refine And.intro ⟨rfl, rfl, rfl, rfl, hok, hD⟩ ?_) | (refine And.intro ?_ ?_) | (refine fun _ => ?_))
      all_goals
        refine WpE.into ?_ key
        exact into [0, 1, 2, 3, 4, 5] ⟨⟨_, rfl, rfl⟩, ⟨_, rfl, rfl⟩, ⟨_, rfl, rfl⟩, ⟨_, rfl, rfl⟩, ⟨_, rfl, rfl⟩, trivial⟩ ⟨_, rfl, rfl⟩ rfl rfl rfl rfl
    refine e_run tt_ok ctDe_ok k_l29_deed [] 90 (by kernel_rfl) ?_
    refine ⟨fun e => absurd (show ((0 : Int) != 0) = true from e) (by decide), fun _ => ?_⟩
    refine ⟨(m2, k3, 0), ⟨rfl, rfl, rfl, rfl, hok2, hS⟩, ?_⟩
    exact fin_k tt_ok (rs := rs_l29_deed) rfl rfl hK [0, 1] rfl rfl rfl rfl rfl rfl
set_option maxHeartbeats 4000000 in
theorem deed_2 {k : Core} {m : Ram} {r : Option Nat} {lo : Bool} {s : Option Nat} {H L : List Nat} (h : Half k m r lo s H L) (a b c : Int) (w : Nat) (po : Bool) (k' : Core) (m' : Ram) (hW : a.tmod 6 = 2) (hw : IntKind.i64.wrap (b.tmod 20) = (w : Int)) (hw20 : w < 20) (hpo : c.tmod 2 = bif po then 1 else 0)
    (hx : deedS k m 2 w po ((allQ r s H L).count w) = (k', m')) : Con Try.prog f_l29_deed [.agg k.sv, .s (.loc 0 0), .agg [.int .u8 a, .int .u8 b, .int .u8 c]] [mBox m.l.length, mOwn m.l]
    (.ret (.tup [.agg k'.sv, .s (.bool true)]) [mBox m'.l.length, mOwn m'.l]) := by
  intro K hK
  obtain ⟨cnt, hcnt⟩ : ∃ n, (allQ r s H L).count w = n := ⟨_, rfl⟩
  rw [hcnt] at hx
  unfold deedS at hx
  have hok := h.ok
  have hw50 : w < 50 := by omega
  have hc0 : (((cnt : Nat) : Int) == 0) = (cnt == 0) := by
    cases h0 : (cnt == 0) <;> simp at h0 ⊢ <;> omega
  refine enter fn_l29_deed rfl nt_l29_deed rfl rfl (fun φ w0 β0 F => ?_)
  refine c_run tt_ok ctDe_ok k_l29_deed [100025, 100044] 90 (by kernel_rfl) ?_
  refine ⟨w, ⟨hw, hw50⟩, ?_⟩
  refine ⟨(m, w, cnt), ⟨rfl, rfl, rfl, rfl, rfl, r, lo, s, H, L, h, hcnt⟩, ?_⟩
  refine ⟨.t (.s (.int .u8 2)), fun β => told_i hW, rfl, ?_⟩
  refine ⟨.t (.s (.bool (noDeed 2 k.busy cnt))), fun β => told_bl (by unfold noDeed; simp only [hc0]; cases k.busy <;> cases (cnt == 0) <;> rfl), rfl, ?_⟩
  refine ⟨fun hg => ?_, fun hg => ?_⟩
  · rw [hg, cond_true] at hx
    cases hx
    exact fin_k tt_ok (rs := rs_l29_deed) rfl rfl hK [0, 1] rfl rfl rfl rfl rfl rfl
  · rw [hg, cond_false] at hx
    have hr : (2 : Nat) = 0 ∨ r ≠ none := by
      refine .inr fun e => ?_
      rw [(h.idle e).1] at hg
      exact absurd hg (by unfold noDeed; cases (cnt == 0) <;> decide)
    have hn : (2 : Nat) = 0 ∨ (2 : Nat) = 5 → w ∉ allQ r s H L := by
      intro e; omega
    obtain ⟨k2, m2, r2, lo2, s2, H2, L2, hD, h2, _⟩ := deed_law h 2 w po (by decide) hw20 hr hn
    obtain ⟨k3, r3, lo3, s3, H3, L3, hS, h3, _, _⟩ := settle_law h2
    rw [hD] at hx
    dsimp only at hx
    rw [hS] at hx
    obtain ⟨e1, e2⟩ := Prod.mk.inj hx
    subst e1
    subst e2
    have hok2 := h2.ok
    refine ⟨fun e => absurd e (by decide), fun _ => ?_⟩
    refine ⟨fun e => absurd e (by decide), fun _ => ?_⟩
    refine ⟨fun _ => ?_, fun e => absurd e (by decide)⟩
    refine ⟨(m, k2, 0, m2), ⟨rfl, rfl, rfl, rfl, slice_ok hok (v := 64) (by unfold I32; decide), hD⟩, ?_⟩
    refine ⟨fun e => absurd (show ((0 : Int) != 0) = true from e) (by decide), fun _ => ?_⟩
    refine ⟨(m2, k3, 0), ⟨rfl, rfl, rfl, rfl, hok2, hS⟩, ?_⟩
    exact fin_k tt_ok (rs := rs_l29_deed) rfl rfl hK [0, 1] rfl rfl rfl rfl rfl rfl
set_option maxHeartbeats 4000000 in
theorem deed_3 {k : Core} {m : Ram} {r : Option Nat} {lo : Bool} {s : Option Nat} {H L : List Nat} (h : Half k m r lo s H L) (a b c : Int) (w : Nat) (po : Bool) (k' : Core) (m' : Ram) (hW : a.tmod 6 = 3) (hw : IntKind.i64.wrap (b.tmod 20) = (w : Int)) (hw20 : w < 20) (hpo : c.tmod 2 = bif po then 1 else 0)
    (hx : deedS k m 3 w po ((allQ r s H L).count w) = (k', m')) : Con Try.prog f_l29_deed [.agg k.sv, .s (.loc 0 0), .agg [.int .u8 a, .int .u8 b, .int .u8 c]] [mBox m.l.length, mOwn m.l]
    (.ret (.tup [.agg k'.sv, .s (.bool true)]) [mBox m'.l.length, mOwn m'.l]) := by
  intro K hK
  obtain ⟨cnt, hcnt⟩ : ∃ n, (allQ r s H L).count w = n := ⟨_, rfl⟩
  rw [hcnt] at hx
  unfold deedS at hx
  have hok := h.ok
  have hw50 : w < 50 := by omega
  have hc0 : (((cnt : Nat) : Int) == 0) = (cnt == 0) := by
    cases h0 : (cnt == 0) <;> simp at h0 ⊢ <;> omega
  refine enter fn_l29_deed rfl nt_l29_deed rfl rfl (fun φ w0 β0 F => ?_)
  refine c_run tt_ok ctDe_ok k_l29_deed [100025, 100044] 90 (by kernel_rfl) ?_
  refine ⟨w, ⟨hw, hw50⟩, ?_⟩
  refine ⟨(m, w, cnt), ⟨rfl, rfl, rfl, rfl, rfl, r, lo, s, H, L, h, hcnt⟩, ?_⟩
  refine ⟨.t (.s (.int .u8 3)), fun β => told_i hW, rfl, ?_⟩
  refine ⟨.t (.s (.bool (noDeed 3 k.busy cnt))), fun β => told_bl (by unfold noDeed; simp only [hc0]; cases k.busy <;> cases (cnt == 0) <;> rfl), rfl, ?_⟩
  refine ⟨fun hg => ?_, fun hg => ?_⟩
  · rw [hg, cond_true] at hx
    cases hx
    exact fin_k tt_ok (rs := rs_l29_deed) rfl rfl hK [0, 1] rfl rfl rfl rfl rfl rfl
  · rw [hg, cond_false] at hx
    have hr : (3 : Nat) = 0 ∨ r ≠ none := by
      refine .inr fun e => ?_
      rw [(h.idle e).1] at hg
      exact absurd hg (by unfold noDeed; cases (cnt == 0) <;> decide)
    have hn : (3 : Nat) = 0 ∨ (3 : Nat) = 5 → w ∉ allQ r s H L := by
      intro e; omega
    obtain ⟨k2, m2, r2, lo2, s2, H2, L2, hD, h2, _⟩ := deed_law h 3 w po (by decide) hw20 hr hn
    obtain ⟨k3, r3, lo3, s3, H3, L3, hS, h3, _, _⟩ := settle_law h2
    rw [hD] at hx
    dsimp only at hx
    rw [hS] at hx
    obtain ⟨e1, e2⟩ := Prod.mk.inj hx
    subst e1
    subst e2
    have hok2 := h2.ok
    refine ⟨fun e => absurd e (by decide), fun _ => ?_⟩
    refine ⟨fun e => absurd e (by decide), fun _ => ?_⟩
    refine ⟨fun e => absurd e (by decide), fun _ => ?_⟩
    refine ⟨fun _ => ?_, fun e => absurd e (by decide)⟩
    show WpC _ _ _ _ _
    refine c_merge [(1, .t (.s (.loc 0 0)), none), (3, .t (.s (.loc 2 0)), none), (6, .t (.s (.loc 4 0)), none), (10, .t (.s (.int .i64 0)), none), (12, .t (.s (.loc 5 0)), none)]
      [.blk 52 [.sl 1 0 m2.l.length m2.l.length], mOwn m2.l, .blk 32 ({ k with err := true } : Core).sv, .blk 56 [.int .u8 a, .int .u8 b, .int .u8 c], .blk 32 Core.zero.sv, .blk 32 k2.sv] (fun key => ?ways) ?cont
    case ways =>
      refine c_waysH tt_ok ctDe_ok k_l29_deed [2] rfl rfl rfl ?_
      repeat' (first | exact trivial | exact ⟨rfl, trivial⟩ | (refine Exists.intro (m, k2, 0, m2) ?_; refine And.intro ⟨rfl, rfl, rfl, rfl, err_ok hok, hD⟩ ?_) | (refine And.intro ?_ ?_) | (refine fun _ => ?_))
      all_goals
        refine WpE.into ?_ key
        exact into [0, 1, 2, 3, 4, 5] ⟨⟨_, rfl, rfl⟩, ⟨_, rfl, rfl⟩, ⟨_, rfl, rfl⟩, ⟨_, rfl, rfl⟩, ⟨_, rfl, rfl⟩, trivial⟩ ⟨_, rfl, rfl⟩ rfl rfl rfl rfl
    refine e_run tt_ok ctDe_ok k_l29_deed [] 90 (by kernel_rfl) ?_
    refine ⟨fun e => absurd (show ((0 : Int) != 0) = true from e) (by decide), fun _ => ?_⟩
    refine ⟨(m2, k3, 0), ⟨rfl, rfl, rfl, rfl, hok2, hS⟩, ?_⟩
    exact fin_k tt_ok (rs := rs_l29_deed) rfl rfl hK [0, 1] rfl rfl rfl rfl rfl rfl
set_option maxHeartbeats 4000000 in
theorem deed_4 {k : Core} {m : Ram} {r : Option Nat} {lo : Bool} {s : Option Nat} {H L : List Nat} (h : Half k m r lo s H L) (a b c : Int) (w : Nat) (po : Bool) (k' : Core) (m' : Ram) (hW : a.tmod 6 = 4) (hw : IntKind.i64.wrap (b.tmod 20) = (w : Int)) (hw20 : w < 20) (hpo : c.tmod 2 = bif po then 1 else 0)
    (hx : deedS k m 4 w po ((allQ r s H L).count w) = (k', m')) : Con Try.prog f_l29_deed [.agg k.sv, .s (.loc 0 0), .agg [.int .u8 a, .int .u8 b, .int .u8 c]] [mBox m.l.length, mOwn m.l]
    (.ret (.tup [.agg k'.sv, .s (.bool true)]) [mBox m'.l.length, mOwn m'.l]) := by
  intro K hK
  obtain ⟨cnt, hcnt⟩ : ∃ n, (allQ r s H L).count w = n := ⟨_, rfl⟩
  rw [hcnt] at hx
  unfold deedS at hx
  have hok := h.ok
  have hw50 : w < 50 := by omega
  have hc0 : (((cnt : Nat) : Int) == 0) = (cnt == 0) := by
    cases h0 : (cnt == 0) <;> simp at h0 ⊢ <;> omega
  refine enter fn_l29_deed rfl nt_l29_deed rfl rfl (fun φ w0 β0 F => ?_)
  refine c_run tt_ok ctDe_ok k_l29_deed [100025, 100044] 90 (by kernel_rfl) ?_
  refine ⟨w, ⟨hw, hw50⟩, ?_⟩
  refine ⟨(m, w, cnt), ⟨rfl, rfl, rfl, rfl, rfl, r, lo, s, H, L, h, hcnt⟩, ?_⟩
  refine ⟨.t (.s (.int .u8 4)), fun β => told_i hW, rfl, ?_⟩
  refine ⟨.t (.s (.bool (noDeed 4 k.busy cnt))), fun β => told_bl (by unfold noDeed; simp only [hc0]; cases k.busy <;> cases (cnt == 0) <;> rfl), rfl, ?_⟩
  refine ⟨fun hg => ?_, fun hg => ?_⟩
  · rw [hg, cond_true] at hx
    cases hx
    exact fin_k tt_ok (rs := rs_l29_deed) rfl rfl hK [0, 1] rfl rfl rfl rfl rfl rfl
  · rw [hg, cond_false] at hx
    have hr : (4 : Nat) = 0 ∨ r ≠ none := by
      refine .inr fun e => ?_
      rw [(h.idle e).1] at hg
      exact absurd hg (by unfold noDeed; cases (cnt == 0) <;> decide)
    have hn : (4 : Nat) = 0 ∨ (4 : Nat) = 5 → w ∉ allQ r s H L := by
      intro e; omega
    obtain ⟨k2, m2, r2, lo2, s2, H2, L2, hD, h2, _⟩ := deed_law h 4 w po (by decide) hw20 hr hn
    obtain ⟨k3, r3, lo3, s3, H3, L3, hS, h3, _, _⟩ := settle_law h2
    rw [hD] at hx
    dsimp only at hx
    rw [hS] at hx
    obtain ⟨e1, e2⟩ := Prod.mk.inj hx
    subst e1
    subst e2
    have hok2 := h2.ok
    refine ⟨fun e => absurd e (by decide), fun _ => ?_⟩
    refine ⟨fun e => absurd e (by decide), fun _ => ?_⟩
    refine ⟨fun e => absurd e (by decide), fun _ => ?_⟩
    refine ⟨fun e => absurd e (by decide), fun _ => ?_⟩
    refine ⟨fun _ => ?_, fun e => absurd e (by decide)⟩
    show WpC _ _ _ _ _
    refine c_merge [(1, .t (.s (.loc 0 0)), none), (3, .t (.s (.loc 2 0)), none), (6, .t (.s (.loc 4 0)), none), (10, .t (.s (.int .i64 0)), none), (12, .t (.s (.loc 5 0)), none)]
      [.blk 52 [.sl 1 0 m2.l.length m2.l.length], mOwn m2.l, .blk 32 k.sv, .blk 56 [.int .u8 a, .int .u8 b, .int .u8 c], .blk 32 Core.zero.sv, .blk 32 k2.sv] (fun key => ?ways) ?cont
    case ways =>
      refine c_waysH tt_ok ctDe_ok k_l29_deed [2] rfl rfl rfl ?_
      repeat' (first | exact trivial | exact ⟨rfl, trivial⟩ | (refine Exists.intro (m, k2, 0, m2) ?_; refine And.intro ⟨rfl, rfl, rfl, rfl, hok, hD⟩ ?_) | (refine And.intro ?_ ?_) | (refine fun _ => ?_))
      all_goals
        refine WpE.into ?_ key
        exact into [0, 1, 2, 3, 4, 5] ⟨⟨_, rfl, rfl⟩, ⟨_, rfl, rfl⟩, ⟨_, rfl, rfl⟩, ⟨_, rfl, rfl⟩, ⟨_, rfl, rfl⟩, trivial⟩ ⟨_, rfl, rfl⟩ rfl rfl rfl rfl
    refine e_run tt_ok ctDe_ok k_l29_deed [] 90 (by kernel_rfl) ?_
    refine ⟨fun e => absurd (show ((0 : Int) != 0) = true from e) (by decide), fun _ => ?_⟩
    refine ⟨(m2, k3, 0), ⟨rfl, rfl, rfl, rfl, hok2, hS⟩, ?_⟩
    exact fin_k tt_ok (rs := rs_l29_deed) rfl rfl hK [0, 1] rfl rfl rfl rfl rfl rfl
set_option maxHeartbeats 4000000 in
theorem deed_5 {k : Core} {m : Ram} {r : Option Nat} {lo : Bool} {s : Option Nat} {H L : List Nat} (h : Half k m r lo s H L) (a b c : Int) (w : Nat) (po : Bool) (k' : Core) (m' : Ram) (hW : a.tmod 6 = 5) (hw : IntKind.i64.wrap (b.tmod 20) = (w : Int)) (hw20 : w < 20) (hpo : c.tmod 2 = bif po then 1 else 0)
    (hx : deedS k m 5 w po ((allQ r s H L).count w) = (k', m')) : Con Try.prog f_l29_deed [.agg k.sv, .s (.loc 0 0), .agg [.int .u8 a, .int .u8 b, .int .u8 c]] [mBox m.l.length, mOwn m.l]
    (.ret (.tup [.agg k'.sv, .s (.bool true)]) [mBox m'.l.length, mOwn m'.l]) := by
  intro K hK
  obtain ⟨cnt, hcnt⟩ : ∃ n, (allQ r s H L).count w = n := ⟨_, rfl⟩
  rw [hcnt] at hx
  unfold deedS at hx
  have hok := h.ok
  have hw50 : w < 50 := by omega
  have hc0 : (((cnt : Nat) : Int) == 0) = (cnt == 0) := by
    cases h0 : (cnt == 0) <;> simp at h0 ⊢ <;> omega
  refine enter fn_l29_deed rfl nt_l29_deed rfl rfl (fun φ w0 β0 F => ?_)
  refine c_run tt_ok ctDe_ok k_l29_deed [100025, 100044] 90 (by kernel_rfl) ?_
  refine ⟨w, ⟨hw, hw50⟩, ?_⟩
  refine ⟨(m, w, cnt), ⟨rfl, rfl, rfl, rfl, rfl, r, lo, s, H, L, h, hcnt⟩, ?_⟩
  refine ⟨.t (.s (.int .u8 5)), fun β => told_i hW, rfl, ?_⟩
  refine ⟨.t (.s (.bool (noDeed 5 k.busy cnt))), fun β => told_bl (by unfold noDeed; simp only [hc0]; cases k.busy <;> cases (cnt == 0) <;> rfl), rfl, ?_⟩
  refine ⟨fun hg => ?_, fun hg => ?_⟩
  · rw [hg, cond_true] at hx
    cases hx
    exact fin_k tt_ok (rs := rs_l29_deed) rfl rfl hK [0, 1] rfl rfl rfl rfl rfl rfl
  · rw [hg, cond_false] at hx
    have hr : (5 : Nat) = 0 ∨ r ≠ none := by
      refine .inr fun e => ?_
      rw [(h.idle e).1] at hg
      exact absurd hg (by unfold noDeed; cases (cnt == 0) <;> decide)
    have hn : (5 : Nat) = 0 ∨ (5 : Nat) = 5 → w ∉ allQ r s H L := by
      intro _ hm
      have hc : cnt ≠ 0 := by rw [← hcnt]; exact Nat.pos_iff_ne_zero.1 (List.count_pos_iff.2 hm)
      have hc' : (cnt == 0) = false := by simpa using hc
      unfold noDeed at hg
      rw [hc'] at hg
      exact absurd hg (by cases k.busy <;> decide)
    obtain ⟨k2, m2, r2, lo2, s2, H2, L2, hD, h2, _⟩ := deed_law h 5 w po (by decide) hw20 hr hn
    obtain ⟨k3, r3, lo3, s3, H3, L3, hS, h3, _, _⟩ := settle_law h2
    rw [hD] at hx
    dsimp only at hx
    rw [hS] at hx
    obtain ⟨e1, e2⟩ := Prod.mk.inj hx
    subst e1
    subst e2
    have hok2 := h2.ok
    refine ⟨fun e => absurd e (by decide), fun _ => ?_⟩
    refine ⟨fun e => absurd e (by decide), fun _ => ?_⟩
    refine ⟨fun e => absurd e (by decide), fun _ => ?_⟩
    refine ⟨fun e => absurd e (by decide), fun _ => ?_⟩
    refine ⟨fun e => absurd e (by decide), fun _ => ?_⟩
    show WpC _ _ _ _ _
    refine c_merge [(1, .t (.s (.loc 0 0)), none), (3, .t (.s (.loc 2 0)), none), (6, .t (.s (.loc 4 0)), none), (10, .t (.s (.int .i64 0)), none), (12, .t (.s (.loc 5 0)), none)]
      [.blk 52 [.sl 1 0 m2.l.length m2.l.length], mOwn m2.l, .blk 32 ({ k with a := spc w, b := 8 } : Core).sv, .blk 56 [.int .u8 a, .int .u8 b, .int .u8 c], .blk 32 Core.zero.sv, .blk 32 k2.sv] (fun key => ?ways) ?cont
    case ways =>
      refine c_waysH tt_ok ctDe_ok k_l29_deed [2] rfl rfl rfl ?_
      repeat' (first | exact trivial | exact ⟨rfl, trivial⟩ | (refine Exists.intro (m, k2, 0, m2) ?_; refine And.intro ⟨rfl, rfl, rfl, rfl, ab_ok hok (spc_I32 hw50), hD⟩ ?_) | (refine And.intro ?_ ?_) | (refine fun _ => ?_))
      all_goals
        refine WpE.into ?_ key
        exact into [0, 1, 2, 3, 4, 5] ⟨⟨_, rfl, rfl⟩, ⟨_, rfl, rfl⟩, ⟨_, rfl, rfl⟩, ⟨_, rfl, rfl⟩, ⟨_, rfl, rfl⟩, trivial⟩ ⟨_, rfl, rfl⟩ rfl rfl rfl rfl
    refine e_run tt_ok ctDe_ok k_l29_deed [] 90 (by kernel_rfl) ?_
    refine ⟨fun e => absurd (show ((0 : Int) != 0) = true from e) (by decide), fun _ => ?_⟩
    refine ⟨(m2, k3, 0), ⟨rfl, rfl, rfl, rfl, hok2, hS⟩, ?_⟩
    exact fin_k tt_ok (rs := rs_l29_deed) rfl rfl hK [0, 1] rfl rfl rfl rfl rfl rfl
end Go.Proofs
