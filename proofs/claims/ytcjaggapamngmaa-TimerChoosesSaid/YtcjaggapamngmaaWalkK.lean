/- Plain laws: Settle and Slice over queues. -/
import Derived.Test.YtcjaggapamngmaaWalkI
import Derived.Test.YtcjaggapamngmaaWalkC
import Derived.Test.YtcjaggapamngmaaWalkJ

namespace Go.Proofs
open Go Go.Sx
set_option maxRecDepth 10000
theorem wrap4 {i : Nat} (h : i < 50) : IntKind.i32.wrap (spc i + -4) = spc i - 4 := by rw [IntKind.wrap_i32]; unfold spc; omega
/-- The core that runs the process i of priority o. -/
def runC (k : Core) (m : Ram) (o : Bool) (i : Nat) (Q : List Nat) : Core := { (takK k o Q).nobody with wptr := spc i, iptr := m.word (spc i - 4), pri := pO o, busy := true }
theorem fr_nobody (k : Core) (o : Bool) : k.nobody.fr o = k.fr o ∧ k.nobody.bk o = k.bk o := by cases o <;> exact ⟨rfl, rfl⟩
theorem sta_law {k : Core} {m : Ram} {o : Bool} {i : Nat} {Q : List Nat} (hl : m.l.length = 2048) (h : QI k m o (i :: Q)) : staR k m (pO o) = (runC k m o i Q, 0) ∧ QI (runC k m o i Q) m o Q := by
  obtain ⟨hT, hQ⟩ := tak_law hl h
  refine ⟨?_, hQ.keep (k' := runC k m o i Q) (by cases o <;> rfl) (by cases o <;> rfl) (fun _ _ => rfl)⟩
  unfold staR
  rw [hT]
  show (bif (0 : Int) != 0 then _ else _) = _
  rw [show ((0 : Int) != 0) = false from rfl, cond_false, wrap4 (h.lt i (by simp))]
  rfl
/-- Nobody runs, nobody waits above: the first of the low queue starts. -/
theorem set_low {k : Core} {m : Ram} {i : Nat} {Q : List Nat} (hl : m.l.length = 2048) (hb : k.busy = false) (hh : k.halted = false) (hp : priB k.pri = true) (hf : k.f0 = NP) (hs : k.sis = false) (h : QI k m true (i :: Q)) :
    setR k m = (runC k m true i Q, 0) := by
  have hf1 : (k.f1 == NP) = false := by
    have : k.f1 = spc i := h.f
    rw [this]; exact spc_np (h.lt i (by simp))
  have hhi : k.high = false := by unfold Core.high; rw [hf]; rfl
  unfold setR
  rw [hp, hh, hb, hhi, hs, hf1]
  exact (sta_law hl h).1
/-- Somebody runs below while somebody waits above: what runs is put away. -/
theorem set_high {k : Core} {m : Ram} {i : Nat} {Q : List Nat} (hl : m.l.length = 2048) (hb : k.busy = true) (hh : k.halted = false) (hp : k.pri = 1) (h : QI k m false (i :: Q)) :
    setR k m = (runC k.sav m false i Q, 0) := by
  have hf0 : (k.f0 == NP) = false := by
    have : k.f0 = spc i := h.f
    rw [this]; exact spc_np (h.lt i (by simp))
  have hhi : k.high = true := by unfold Core.high; rw [hf0]; rfl
  unfold setR
  rw [hp, hh, hb, hhi]
  exact (sta_law (k := k.sav) hl (h.keep rfl rfl fun _ _ => rfl)).1
/-- Nobody runs, somebody waits above. -/
theorem set_next {k : Core} {m : Ram} {i : Nat} {Q : List Nat} (hl : m.l.length = 2048) (hb : k.busy = false) (hh : k.halted = false) (hp : priB k.pri = true) (h : QI k m false (i :: Q)) :
    setR k m = (runC k m false i Q, 0) := by
  have hf0 : (k.f0 == NP) = false := by
    have : k.f0 = spc i := h.f
    rw [this]; exact spc_np (h.lt i (by simp))
  have hhi : k.high = true := by unfold Core.high; rw [hf0]; rfl
  unfold setR
  rw [hp, hh, hb, hhi]
  exact (sta_law hl h).1
end Go.Proofs

namespace Go.Proofs
open Go Go.Sx
set_option maxRecDepth 10000
section
variable {α : Type} {vs : α → List Value} {n : Nat}
theorem tab_row (hn : ∀ x, (vs x).length = n) {l : List α} {i : Nat} {g : α} (h : l[i]? = some g) : seg (l.map vs).flatten (0 + i * n) n = vs g := by
  rw [Nat.zero_add]
  induction l generalizing i with
  | nil => simp at h
  | cons x l ih =>
    cases i with
    | zero =>
      simp at h; subst h
      show (((x :: l).map vs).flatten.drop (0 * n)).take n = _
      rw [Nat.zero_mul, List.drop_zero]
      show (vs x ++ (l.map vs).flatten).take n = _
      rw [← hn x, List.take_left]
    | succ i =>
      rw [← ih (by simpa using h)]
      show ((vs x ++ (l.map vs).flatten).drop ((i + 1) * n)).take n = ((l.map vs).flatten.drop (i * n)).take n
      rw [show (i + 1) * n = (vs x).length + i * n by rw [hn]; rw [Nat.add_mul]; omega, ← List.drop_drop, List.drop_left]
theorem tab_len (hn : ∀ x, (vs x).length = n) (l : List α) : (l.map vs).flatten.length = l.length * n := by
  induction l with
  | nil => simp
  | cons x l ih => rw [List.map_cons, List.flatten_cons, List.length_append, ih, hn, List.length_cons, Nat.add_mul]; omega
theorem tab_cell (hn : ∀ x, (vs x).length = n) {l : List α} {i j : Nat} {g : α} (h : l[i]? = some g) (hj : j < n) {v : Value} (hv : (vs g)[j]? = some v) : (l.map vs).flatten[0 + i * n + j]? = some v := by
  have hr := tab_row hn h
  rw [← hr] at hv
  unfold seg at hv
  rw [List.getElem?_take_of_lt hj, List.getElem?_drop] at hv
  rw [← hv]
theorem tab_bound (hn : ∀ x, (vs x).length = n) {l : List α} {i : Nat} (h : i < l.length) : 0 + (i + 1) * n ≤ (l.map vs).flatten.length := by
  rw [tab_len hn, Nat.zero_add]; exact Nat.mul_le_mul_right n h
end
end Go.Proofs

namespace Go.Proofs
open Go Go.Sx
set_option maxRecDepth 10000
/-- A time guard. -/
structure Gd where
  on : Bool
  dl : Int
def Gd.vs (g : Gd) : List Value := [.bool g.on, .int .u8 g.dl]
def Gd.good (g : Gd) : Prop := 0 ≤ g.dl ∧ g.dl < 256
theorem gd_len (g : Gd) : g.vs.length = 2 := rfl
def gdV (l : List Gd) : List Value := (l.map Gd.vs).flatten
def Gd.d (g : Gd) : Int := g.dl % 64 - 8
theorem Gd.d_in (g : Gd) : -8 ≤ g.d ∧ g.d ≤ 55 := by unfold Gd.d; omega
/-- The first time of the true guards. -/
def mnA (e : Option Int) (g : Gd) : Option Int := bif g.on then some (match e with | none => g.d | some x => bif decide (g.d < x) then g.d else x) else e
def mn (l : List Gd) : Option Int := l.foldl mnA none
theorem mn_snoc (l : List Gd) (g : Gd) : mn (l ++ [g]) = mnA (mn l) g := by unfold mn; rw [List.foldl_append]; rfl
theorem mn_in : ∀ (l : List Gd) {x : Int}, mn l = some x → -8 ≤ x ∧ x ≤ 55 := fun l => by
  have key : ∀ (l : List Gd) (e : Option Int), (∀ x, e = some x → -8 ≤ x ∧ x ≤ 55) → ∀ x, l.foldl mnA e = some x → -8 ≤ x ∧ x ≤ 55 := fun l => by
    induction l with
    | nil => intro e he x hx; exact he x hx
    | cons g t ih =>
      intro e he x hx
      refine ih (mnA e g) (fun y hy => ?_) x hx
      unfold mnA at hy
      have hg := g.d_in
      cases ho : g.on <;> rw [ho] at hy
      · exact he y hy
      · rw [cond_true] at hy
        cases e with
        | none => cases hy; exact hg
        | some z =>
          have hz := he z rfl
          simp only [Option.some.injEq] at hy
          rw [← hy]
          cases decide (g.d < z)
          · exact hz
          · exact hg
  intro x hx
  exact key l none (fun _ h => by cases h) x hx
/-- Every true guard's time is at or behind the first one. -/
theorem mn_le : ∀ (l : List Gd), (∀ g ∈ l, g.on = true → ∃ x, mn l = some x ∧ x ≤ g.d) := fun l => by
  have key : ∀ (l : List Gd) (e : Option Int), (∀ y, e = some y → ∃ x, l.foldl mnA e = some x ∧ x ≤ y) ∧ ∀ g ∈ l, g.on = true → ∃ x, l.foldl mnA e = some x ∧ x ≤ g.d := fun l => by
    induction l with
    | nil => intro e; exact ⟨fun y hy => ⟨y, hy, Int.le_refl _⟩, fun g hg => by cases hg⟩
    | cons g t ih =>
      intro e
      obtain ⟨h1, h2⟩ := ih (mnA e g)
      refine ⟨fun y hy => ?_, fun g' hg' ho => ?_⟩
      · subst hy
        cases hon : g.on
        · exact h1 y (by unfold mnA; rw [hon]; rfl)
        · by_cases hlt : g.d < y
          · obtain ⟨x, hx, hle⟩ := h1 g.d (by unfold mnA; rw [hon]; simp [hlt])
            exact ⟨x, hx, by omega⟩
          · exact h1 y (by unfold mnA; rw [hon]; simp [hlt])
      · rcases List.mem_cons.1 hg' with rfl | hg'
        · cases e with
          | none => exact h1 g'.d (by unfold mnA; rw [ho]; rfl)
          | some y =>
            by_cases hlt : g'.d < y
            · exact h1 g'.d (by unfold mnA; rw [ho]; simp [hlt])
            · obtain ⟨x, hx, hle⟩ := h1 y (by unfold mnA; rw [ho]; simp [hlt])
              exact ⟨x, hx, by omega⟩
        · exact h2 g' hg' ho
  exact (key l none).2
theorem mn_none {l : List Gd} (h : mn l = none) : ∀ g ∈ l, g.on = false := fun g hg => by
  cases ho : g.on
  · rfl
  · obtain ⟨x, hx, _⟩ := mn_le l g hg ho
    rw [h] at hx; cases hx
/-- The cores of such a process. -/
def kC (c0 c1 tk t ip a b c : Int) : Core := { K0 with k0 := c0, k1 := c1, ticks := tk, t0 := t, wptr := spc 0, iptr := ip, busy := true, a := a, b := b, c := c }
def kA (c0 c1 tk t : Int) : Core := { K0 with k0 := c0, k1 := c1, ticks := tk, t0 := t }
theorem cK0_ok : K0.ok := by constructor <;> exact ⟨by decide, by decide⟩
theorem kC_ok {c0 c1 tk t ip a b c : Int} (h0 : I32 c0) (h1 : I32 c1) (h2 : I32 tk) (h3 : I32 t) (h4 : I32 ip) (ha : I32 a) (hb : I32 b) (hc : I32 c) : (kC c0 c1 tk t ip a b c).ok :=
  { cK0_ok with k0 := h0, k1 := h1, ticks := h2, t0 := h3, iptr := h4, a := ha, b := hb, c := hc, wptr := spc_I32 (i := 0) (by decide) }
theorem kA_ok {c0 c1 tk t : Int} (h0 : I32 c0) (h1 : I32 c1) (h2 : I32 tk) (h3 : I32 t) : (kA c0 c1 tk t).ok :=
  { cK0_ok with k0 := h0, k1 := h1, ticks := h2, t0 := h3 }
/-- Words of the process's own. -/
theorem sz {m : Ram} (hl : m.l.length = 2048) {d e v : Int} (hd : 0 ≤ d ∧ d ≤ 28 ∧ d % 4 = 0) (he : 0 ≤ e ∧ e ≤ 28 ∧ e % 4 = 0) (hv : I32 v) :
    (m.set (spc 0 - d) v).word (spc 0 - e) = if e = d then v else m.word (spc 0 - e) := by
  rw [sw hl (by decide) (by decide) hd he hv]
  by_cases h : e = d <;> simp [h]
theorem w16 : IntKind.i32.wrap (spc 0 + -16) = spc 0 - 16 := spc_w (by decide) (by decide) (by decide)
theorem w20 : IntKind.i32.wrap (spc 0 + -20) = spc 0 - 20 := spc_w (by decide) (by decide) (by decide)
theorem w12 : IntKind.i32.wrap (spc 0 + -12) = spc 0 - 12 := spc_w (by decide) (by decide) (by decide)
theorem w0 : IntKind.i32.wrap (spc 0) = spc 0 - 0 := by rw [IntKind.wrap_i32]; unfold spc; omega
theorem aft_cc {clock x y : Int} (hx : -8 ≤ x ∧ x ≤ 64) (hy : -8 ≤ y ∧ y ≤ 64) : aftB (IntKind.i32.wrap (clock + x)) (IntKind.i32.wrap (clock + y)) = decide (y < x) := by
  unfold aftB
  congr 1
  rw [IntKind.wrap_i32, IntKind.wrap_i32, IntKind.wrap_i32]
  apply propext
  constructor <;> intro h <;> omega
/-- While guards are enabled. -/
structure EnI (clock : Int) (e : Option Int) (m : Ram) : Prop where
  len : m.l.length = 2048
  b12 : m.word (spc 0 - 12) = -2147483647
  b16 : m.word (spc 0 - 16) = bif e.isSome then tSet else tNot
  b20 : ∀ x, e = some x → m.word (spc 0 - 20) = IntKind.i32.wrap (clock + x)
theorem talt_law {c0 c1 tk t ip a b c : Int} {clock : Int} {m : Ram} (hl : m.l.length = 2048) : ∃ m', texR (kC c0 c1 tk t ip a b c) m 15 78 = (kC c0 c1 tk t ip a b c, 0, m') ∧ EnI clock none m' := by
  have hv : validB m (kC c0 c1 tk t ip a b c).wptr = true := spc_valid hl (by decide)
  have e : excR (kC c0 c1 tk t ip a b c) m 78 = some (kC c0 c1 tk t ip a b c, (m.set (spc 0 - 12) tSet).set (spc 0 - 16) tNot) := by
    unfold excR
    rw [show ((78 : Int) == 34) = false from rfl, show ((78 : Int) == 84) = false from rfl, show ((78 : Int) == 43) = false from rfl, show ((78 : Int) == 78) = true from rfl, hv, show (kC c0 c1 tk t ip a b c).wptr = spc 0 from rfl, w12, w16]; rfl
  refine ⟨(m.set (spc 0 - 12) tSet).set (spc 0 - 16) tNot, ?_, ⟨by rw [set_len, set_len]; exact hl, ?_, ?_, fun x h => by cases h⟩⟩
  · unfold texR; rw [e]; rfl
  · rw [sz (by rw [set_len]; exact hl) (by decide) (by decide) (show I32 tNot from ⟨by decide, by decide⟩), if_neg (by decide), sz hl (by decide) (by decide) (show I32 tSet from ⟨by decide, by decide⟩), if_pos rfl]
  · rw [sz (by rw [set_len]; exact hl) (by decide) (by decide) (show I32 tNot from ⟨by decide, by decide⟩), if_pos rfl]; rfl
theorem enbt_law {c0 c1 tk t ip c clock : Int} {m : Ram} {e : Option Int} {g : Gd} (h : EnI clock e m) (he : ∀ x, e = some x → -8 ≤ x ∧ x ≤ 55) :
    ∃ m', texR (kC c0 c1 tk t ip (bif g.on then 1 else 0) (IntKind.i32.wrap (clock + g.d)) c) m 15 71 = (kC c0 c1 tk t ip (bif g.on then 1 else 0) c c, 0, m') ∧ EnI clock (mnA e g) m' := by
  obtain ⟨k, hk⟩ : ∃ k, kC c0 c1 tk t ip (bif g.on then 1 else 0) (IntKind.i32.wrap (clock + g.d)) c = k := ⟨_, rfl⟩
  have hl := h.len
  have hv : validB m k.wptr = true := by rw [← hk]; exact spc_valid hl (by decide)
  have hx : excR k m 71 = some ({ k with b := k.c }, enbM k m) := by
    unfold excR
    rw [show ((71 : Int) == 34) = false from rfl, show ((71 : Int) == 84) = false from rfl, show ((71 : Int) == 43) = false from rfl, show ((71 : Int) == 78) = false from rfl, show ((71 : Int) == 71) = true from rfl, hv]; rfl
  have hT : texR k m 15 71 = ({ k with b := k.c }, 0, enbM k m) := by
    unfold texR; rw [hx, show priB k.pri = true by rw [← hk]; rfl, show k.busy = true by rw [← hk]; rfl]; rfl
  have hkw : k.wptr = spc 0 := by rw [← hk]; rfl
  have hka : k.a = bif g.on then 1 else 0 := by rw [← hk]; rfl
  have hkb : k.b = IntKind.i32.wrap (clock + g.d) := by rw [← hk]; rfl
  have htS : I32 tSet := ⟨by decide, by decide⟩
  refine ⟨enbM k m, ?_, ?_⟩
  · rw [hk, hT, ← hk]; rfl
  have hE : enbM k m = bif !g.on then m else bif e.isSome then bif aftB (m.word (spc 0 - 20)) (IntKind.i32.wrap (clock + g.d)) then m.set (spc 0 - 20) (IntKind.i32.wrap (clock + g.d)) else m
      else (m.set (spc 0 - 16) tSet).set (spc 0 - 20) (IntKind.i32.wrap (clock + g.d)) := by
    unfold enbM
    rw [hkw, hka, hkb, w16, w20, h.b16]
    cases g.on <;> cases e.isSome <;> rfl
  have hg := g.d_in
  cases ho : g.on
  · rw [hE, ho, show mnA e g = e by unfold mnA; rw [ho]; rfl]; exact h
  · rw [hE, ho, Bool.not_true, cond_false]
    cases e with
    | none =>
      show EnI clock (mnA none g) ((m.set (spc 0 - 16) tSet).set (spc 0 - 20) (IntKind.i32.wrap (clock + g.d)))
      have hm : mnA none g = some g.d := by unfold mnA; rw [ho]; rfl
      rw [hm]
      have hl1 : (m.set (spc 0 - 16) tSet).l.length = 2048 := by rw [set_len]; exact hl
      refine ⟨by rw [set_len]; exact hl1, ?_, ?_, fun x hx => ?_⟩
      · rw [sz hl1 (by decide) (by decide) (I32_wrap _), if_neg (by decide), sz hl (by decide) (by decide) htS, if_neg (by decide)]; exact h.b12
      · rw [sz hl1 (by decide) (by decide) (I32_wrap _), if_neg (by decide), sz hl (by decide) (by decide) htS, if_pos rfl]; rfl
      · cases hx
        rw [sz hl1 (by decide) (by decide) (I32_wrap _), if_pos rfl]
    | some x =>
      have hxr := he x rfl
      show EnI clock (mnA (some x) g) (bif aftB (m.word (spc 0 - 20)) (IntKind.i32.wrap (clock + g.d)) then m.set (spc 0 - 20) (IntKind.i32.wrap (clock + g.d)) else m)
      rw [h.b20 x rfl, aft_cc (by omega) (by omega)]
      by_cases hlt : g.d < x
      · rw [decide_eq_true hlt, cond_true, show mnA (some x) g = some g.d by unfold mnA; rw [ho]; simp [hlt]]
        refine ⟨by rw [set_len]; exact hl, ?_, ?_, fun y hy => ?_⟩
        · rw [sz hl (by decide) (by decide) (I32_wrap _), if_neg (by decide)]; exact h.b12
        · rw [sz hl (by decide) (by decide) (I32_wrap _), if_neg (by decide)]; exact h.b16
        · cases hy
          rw [sz hl (by decide) (by decide) (I32_wrap _), if_pos rfl]
      · rw [decide_eq_false hlt, cond_false, show mnA (some x) g = some x by unfold mnA; rw [ho]; simp [hlt]]
        exact h
/-- The time of a process in the queue. -/
abbrev tmO (clock : Int) (e : Option Int) : Nat → Int := fun _ => IntKind.i32.wrap (IntKind.i32.wrap (clock + e.getD 0) + 1)
abbrev qO (e : Option Int) : List Nat := bif e.isSome then [0] else []
/-- After n ticks, while it waits. -/
structure WaI (clock : Int) (e : Option Int) (n : Nat) (k : Core) (m : Ram) : Prop where
  len : m.l.length = 2048
  kf : ∃ c1 tk, k = kA (IntKind.i32.wrap (clock + (n : Int))) c1 tk (fstQ (qO e)) ∧ I32 c1 ∧ I32 tk
  q : TQ m (fstQ (qO e)) (tmO clock e) (qO e)
  b12 : m.word (spc 0 - 12) = -2147483646
  b0 : m.word (spc 0 - 0) = -1
  b16 : e = none → m.word (spc 0 - 16) = tNot
/-- It goes on: what time guards find. -/
structure OnI (clock now : Int) (e : Option Int) (m : Ram) : Prop where
  len : m.l.length = 2048
  b0 : m.word (spc 0 - 0) = -1
  b16 : m.word (spc 0 - 16) = bif e.isSome then tSet else tNot
  b20 : m.word (spc 0 - 20) = IntKind.i32.wrap (clock + now)
theorem fq_I32 (e : Option Int) : I32 (fstQ (qO e)) := by
  cases e with
  | none => exact (show I32 NP from ⟨by decide, by decide⟩)
  | some x => exact (show I32 (spc 0) from ⟨by decide, by decide⟩)
end Go.Proofs

namespace Go.Proofs
open Go Go.Sx
set_option maxRecDepth 10000
/-- What taltwt leaves. -/
inductive TwI (clock : Int) (e : Option Int) (ready : Bool) : Core → Ram → Prop
  | on {c1 tk ip a b c : Int} {m : Ram} (h : OnI clock 0 e m) (hg : ready = true ∨ ∃ x, e = some x ∧ x < 0) (hr : I32 c1 ∧ I32 tk ∧ I32 ip ∧ I32 a ∧ I32 b ∧ I32 c) : TwI clock e ready (kC clock c1 tk NP ip a b c) m
  | wait {k : Core} {m : Ram} (h : WaI clock e 0 k m) (hg : ready = false ∧ ∀ x, e = some x → 0 ≤ x) : TwI clock e ready k m
theorem taltwt_law {clock c1 tk ip a b c : Int} {e : Option Int} {m : Ram} {ready : Bool} (hck : I32 clock) (hr : I32 c1 ∧ I32 tk ∧ I32 ip ∧ I32 a ∧ I32 b ∧ I32 c) (hl : m.l.length = 2048) (h12 : m.word (spc 0 - 12) = bif ready then -2147483645 else -2147483647)
    (h16 : m.word (spc 0 - 16) = bif e.isSome then tSet else tNot) (h20 : ∀ x, e = some x → m.word (spc 0 - 20) = IntKind.i32.wrap (clock + x)) (he : ∀ x, e = some x → -8 ≤ x ∧ x ≤ 55) :
    ∃ k' m', texR (kC clock c1 tk NP ip a b c) m 15 81 = (k', 0, m') ∧ TwI clock e ready k' m' := by
  obtain ⟨k, hk⟩ : ∃ k, kC clock c1 tk NP ip a b c = k := ⟨_, rfl⟩
  have hv : validB m k.wptr = true := by rw [← hk]; exact spc_valid hl (by decide)
  have hx : excR k m 81 = talR k m (k.ck (k.pri == 1)) := by
    unfold excR
    rw [show ((81 : Int) == 34) = false from rfl, show ((81 : Int) == 84) = false from rfl, show ((81 : Int) == 43) = false from rfl, show ((81 : Int) == 78) = false from rfl, show ((81 : Int) == 71) = false from rfl, show ((81 : Int) == 81) = true from rfl, hv]; rfl
  have hck' : k.ck (k.pri == 1) = clock := by rw [← hk]; rfl
  have hT : ∀ k' m', talR k m clock = some (k', m') → texR k m 15 81 = (k', 0, m') := fun k' m' h => by
    unfold texR; rw [hx, hck', h, show priB k.pri = true by rw [← hk]; rfl, show k.busy = true by rw [← hk]; rfl]; rfl
  have hkw : k.wptr = spc 0 := by rw [← hk]; rfl
  obtain ⟨m0, hm0⟩ : ∃ m0, m.set (spc 0 - 0) (-1) = m0 := ⟨_, rfl⟩
  have hl0 : m0.l.length = 2048 := by rw [← hm0, set_len]; exact hl
  have hI1 : I32 (-1) := ⟨by decide, by decide⟩
  have g0 : m0.word (spc 0 - 0) = -1 := by rw [← hm0, sz hl (by decide) (by decide) hI1, if_pos rfl]
  have g12 : m0.word (spc 0 - 12) = bif ready then -2147483645 else -2147483647 := by rw [← hm0, sz hl (by decide) (by decide) hI1, if_neg (by decide)]; exact h12
  have g16 : m0.word (spc 0 - 16) = bif e.isSome then tSet else tNot := by rw [← hm0, sz hl (by decide) (by decide) hI1, if_neg (by decide)]; exact h16
  have g20 : ∀ x, e = some x → m0.word (spc 0 - 20) = IntKind.i32.wrap (clock + x) := fun x hx => by rw [← hm0, sz hl (by decide) (by decide) hI1, if_neg (by decide)]; exact h20 x hx
  have hc0 : ∀ x, -8 ≤ x ∧ x ≤ 55 → aftB clock (IntKind.i32.wrap (clock + x)) = decide (x < 0) := fun x hx => by
    have := aft_cc (clock := clock) (x := 0) (y := x) (by omega) (by omega)
    rw [show IntKind.i32.wrap (clock + 0) = clock by rw [IntKind.wrap_i32]; unfold I32 at hck; omega] at this
    exact this
  have e12 : (m0.word (spc 0 - 12) == -2147483645) = ready := by rw [g12]; cases ready <;> rfl
  have e16 : (m0.word (spc 0 - 16) == tSet) = e.isSome := by rw [g16]; cases e.isSome <;> rfl
  have hE : talR k m clock = bif bif ready then true else bif e.isSome then aftB clock (m0.word (spc 0 - 20)) else false then some (k, (m0.set (spc 0 - 12) (-2147483645)).set (spc 0 - 20) clock)
      else sleR k m0 e.isSome (IntKind.i32.wrap (m0.word (spc 0 - 20) + 1)) := by
    unfold talR
    rw [hkw, w0, w12, w16, w20, hm0, e12, e16]
  have hgo : (ready = true ∨ ∃ x, e = some x ∧ x < 0) → ∃ m', texR k m 15 81 = (k, 0, m') ∧ OnI clock 0 e m' := fun hg => by
    have hcond : (bif ready then true else bif e.isSome then aftB clock (m0.word (spc 0 - 20)) else false) = true := by
      rcases hg with hg | ⟨x, hx1, hx2⟩
      · rw [hg]; rfl
      · rw [g20 x hx1, hc0 x (he x hx1), decide_eq_true hx2, hx1]; cases ready <;> rfl
    rw [hcond, cond_true] at hE
    have hl1 : (m0.set (spc 0 - 12) (-2147483645)).l.length = 2048 := by rw [set_len]; exact hl0
    have hR : I32 (-2147483645) := ⟨by decide, by decide⟩
    refine ⟨_, hT _ _ hE, ⟨by rw [set_len]; exact hl1, ?_, ?_, ?_⟩⟩
    · rw [sz hl1 (by decide) (by decide) hck, if_neg (by decide), sz hl0 (by decide) (by decide) hR, if_neg (by decide)]; exact g0
    · rw [sz hl1 (by decide) (by decide) hck, if_neg (by decide), sz hl0 (by decide) (by decide) hR, if_neg (by decide)]; exact g16
    · rw [sz hl1 (by decide) (by decide) hck, if_pos rfl, IntKind.wrap_i32]; unfold I32 at hck; omega
  have hgoes : (ready = true ∨ ∃ x, e = some x ∧ x < 0) → ∃ k' m', texR k m 15 81 = (k', 0, m') ∧ TwI clock e ready k' m' := fun hg => by
    obtain ⟨m', h1, h2⟩ := hgo hg
    exact ⟨k, m', h1, hk ▸ .on h2 hg hr⟩
  rw [hk]
  cases hrd : ready with
  | true => rw [hrd] at hgoes; exact hgoes (.inl rfl)
  | false =>
    rw [hrd] at hE hgoes
    have hnb : k.nobody = kA clock c1 tk NP := by rw [← hk]; rfl
    cases hes : e with
    | none =>
      rw [hes] at hE g16
      have hs : sleR k m0 false (IntKind.i32.wrap (m0.word (spc 0 - 20) + 1)) = some (k.nobody, (m0.set (spc 0 - 12) (-2147483646)).set (spc 0 - 4) k.iptr) := by
        have hl1 : (m0.set (spc 0 - 12) (-2147483646)).l.length = 2048 := by rw [set_len]; exact hl0
        obtain ⟨_, e2, e3⟩ := tw_law (k := k) (i := 0) hl1 (by rw [← hk]; rfl) hkw (by decide)
        unfold sleR
        rw [cond_false, hkw, w12, sleW, e2, e3]
      rw [show (none : Option Int).isSome = false from rfl, hs] at hE
      have hI : I32 k.iptr := by rw [← hk]; exact hr.2.2.1
      have hW : I32 (-2147483646) := ⟨by decide, by decide⟩
      have hl1 : (m0.set (spc 0 - 12) (-2147483646)).l.length = 2048 := by rw [set_len]; exact hl0
      refine ⟨_, _, hT _ _ hE, .wait ⟨by rw [set_len]; exact hl1, ⟨c1, tk, ?_, hr.1, hr.2.1⟩, ⟨rfl, trivial, fun i hi => (by cases hi), fun i hi => (by cases hi), List.nodup_nil⟩, ?_, ?_, fun _ => ?_⟩ ⟨rfl, fun x hx => by cases hx⟩⟩
      · rw [hnb, show IntKind.i32.wrap (clock + ((0 : Nat) : Int)) = clock by rw [IntKind.wrap_i32]; unfold I32 at hck; simp; omega]; rfl
      · rw [sz hl1 (by decide) (by decide) hI, if_neg (by decide), sz hl0 (by decide) (by decide) hW, if_pos rfl]
      · rw [sz hl1 (by decide) (by decide) hI, if_neg (by decide), sz hl0 (by decide) (by decide) hW, if_neg (by decide)]; exact g0
      · rw [sz hl1 (by decide) (by decide) hI, if_neg (by decide), sz hl0 (by decide) (by decide) hW, if_neg (by decide)]; exact g16
    | some x =>
      rw [hes] at hE g16 g20 hgoes
      have hxr := he x hes
      by_cases hx0 : x < 0
      · exact hgoes (.inr ⟨x, rfl, hx0⟩)
      rw [g20 x rfl, hc0 x hxr, decide_eq_false hx0, show (some x).isSome = true from rfl] at hE
      have hQ0 : TQ m0 k.t0 (fun _ => 0) (([] : List Nat) ++ []) := ⟨by rw [← hk]; rfl, trivial, fun i hi => (by cases hi), fun i hi => (by cases hi), List.nodup_nil⟩
      obtain ⟨k', m', hs, hl', hQ', hk', hb12, hother, hown⟩ := sle_law (k := k) (j := 0) (at' := IntKind.i32.wrap (IntKind.i32.wrap (clock + x) + 1)) hl0 hQ0 (by rw [← hk]; rfl) hkw (by rw [← hk]; rfl) (by decide) (by simp) (I32_wrap _) (by rw [← hk]; exact hr.2.2.1)
        (fun i hi => by cases hi) (fun b t hb => by cases hb) (by decide)
      have hE' : talR k m clock = some (k'.nobody, m') := by rw [hE]; exact hs
      have hkn : k'.nobody = kA clock c1 tk (spc 0) := by rw [hk', ← hk]; rfl
      refine ⟨_, _, hT _ _ hE', .wait ⟨hl', ⟨c1, tk, ?_, hr.1, hr.2.1⟩, ?_, hb12, ?_, fun hx => by cases hx⟩ ⟨rfl, fun y hy => by cases hy; omega⟩⟩
      · rw [hkn, show IntKind.i32.wrap (clock + ((0 : Nat) : Int)) = clock by rw [IntKind.wrap_i32]; unfold I32 at hck; simp; omega]; rfl
      · have ht : k'.t0 = spc 0 := by rw [hk', ← hk]; rfl
        rw [ht] at hQ'
        refine TQ.times (T := upd (fun _ => 0) 0 (IntKind.i32.wrap (IntKind.i32.wrap (clock + x) + 1))) hQ' fun i hi => ?_
        rw [show i = 0 from List.mem_singleton.1 hi]; rfl
      · rw [hown 0 (by decide) (by decide) (by decide) (by decide) (by decide)]; exact g0
/-- One step of the wakes. -/
theorem tikq_step {f : Nat} {k : Core} {m : Ram} {T : Nat → Int} {a : Nat} {t : List Nat} (hl : m.l.length = 2048) (h : TQ m k.t0 T (a :: t)) :
    tikQ (f + 1) k m 0 = bif aftB (T a) k.k0 then some (k, m) else bif f == 0 then none else (wakR k m 0).bind fun r => tikQ f r.1 r.2 0 := by
  have ha : a < 50 := h.lt a (by simp)
  have hhd : k.tm ((0 : Int) == 1) = spc a := h.hd
  have h20 : m.word (spc a - 20) = T a := h.tm a (by simp)
  rw [tikQ, hhd, show (spc a == NP) = false from spc_np ha, spc_valid hl ha, show (-20 : Int) = -(20 : Int) from rfl, spc_w ha (by decide) (by decide), h20]; rfl
theorem tikq_nil {f : Nat} {k : Core} {m : Ram} (h : k.t0 = NP) : tikQ (f + 1) k m 0 = some (k, m) := by
  rw [tikQ, show k.tm ((0 : Int) == 1) = NP from h]; rfl
theorem adv_kA {c0 c1 tk t : Int} (h1 : I32 c1) (_h2 : I32 tk) : ∃ c1' tk', (kA c0 c1 tk t).adv = kA (IntKind.i32.wrap (c0 + 1)) c1' tk' t ∧ I32 c1' ∧ I32 tk' := by
  unfold Core.adv
  cases (bif decide (IntKind.i32.wrap ((kA c0 c1 tk t).ticks + 1) ≤ 0) then true else decide (IntKind.i32.wrap ((kA c0 c1 tk t).ticks + 1) > 63))
  · exact ⟨c1, IntKind.i32.wrap (tk + 1), rfl, h1, I32_wrap _⟩
  · exact ⟨IntKind.i32.wrap (c1 + 1), 0, rfl, I32_wrap _, ⟨by decide, by decide⟩⟩
/-- After n ticks, woken, before it runs; t: what its timer queue holds. -/
structure RdI (clock : Int) (n : Nat) (t : Int) (k : Core) (m : Ram) : Prop where
  len : m.l.length = 2048
  kf : ∃ c1 tk, k = { kA (IntKind.i32.wrap (clock + (n : Int))) c1 tk t with f0 := spc 0, b0 := spc 0 } ∧ I32 c1 ∧ I32 tk
theorem qI_one {k : Core} {m : Ram} (hf : k.f0 = spc 0) (hb : k.b0 = spc 0) : QI k m false [0] := ⟨hf, hb, trivial, by simp, fun i hi => by rw [List.mem_singleton.1 hi]; decide⟩
theorem wa_tick {clock : Int} {e : Option Int} {n : Nat} {k : Core} {m : Ram} (h : WaI clock e n k m) (he : ∀ x, e = some x → (n : Int) ≤ x ∧ x ≤ 55) (hn : n < 64) :
    ∃ k' m', ttkR k m = (k', 0, m') ∧ ((WaI clock e (n + 1) k' m' ∧ ∀ x, e = some x → ((n + 1 : Nat) : Int) ≤ x) ∨
      (e = some (n : Int) ∧ RdI clock (n + 1) NP k' m' ∧ OnI clock ((n + 1 : Nat) : Int) e m')) := by
  obtain ⟨c1, tk, hk, h1, h2⟩ := h.kf
  have hc : IntKind.i32.wrap (IntKind.i32.wrap (clock + (n : Int)) + 1) = IntKind.i32.wrap (clock + ((n + 1 : Nat) : Int)) := by
    rw [IntKind.wrap_i32, IntKind.wrap_i32, IntKind.wrap_i32]; omega
  obtain ⟨c1', tk', hadv, h1', h2'⟩ := adv_kA (c0 := IntKind.i32.wrap (clock + (n : Int))) (t := fstQ (qO e)) h1 h2
  rw [hc] at hadv
  have hqn : queN = 1024 + 1 := by rw [queN_eq]
  have hidle : ∀ k' m', k'.t1 = NP → tikQ queN k.adv m 0 = some (k', m') → k.halted = false → ttkR k m = (k', 0, m') := fun k' m' ht hq hh => by
    unfold ttkR
    rw [hh, cond_false, show tikF 0 k.adv m = (tikQ queN k.adv m 0).bind fun r => tikQ queN r.1 r.2 1 from rfl, hq]
    show tryR m (tikQ queN k' m' 1) = _
    rw [tikq_idle (by rw [queN_eq]; decide) ht]; rfl
  have hh : k.halted = false := by rw [hk]; rfl
  have hka : k.adv = kA (IntKind.i32.wrap (clock + ((n + 1 : Nat) : Int))) c1' tk' (fstQ (qO e)) := by rw [hk]; exact hadv
  have hsame : tikQ queN k.adv m 0 = some (k.adv, m) → (∀ x, e = some x → ((n + 1 : Nat) : Int) ≤ x) → ∃ k' m', ttkR k m = (k', 0, m') ∧ ((WaI clock e (n + 1) k' m' ∧ ∀ x, e = some x → ((n + 1 : Nat) : Int) ≤ x) ∨
      (e = some (n : Int) ∧ RdI clock (n + 1) NP k' m' ∧ OnI clock ((n + 1 : Nat) : Int) e m')) := fun hq hle =>
    ⟨k.adv, m, hidle _ _ (by rw [hka]; rfl) hq hh, .inl ⟨⟨h.len, ⟨c1', tk', hka, h1', h2'⟩, h.q, h.b12, h.b0, h.b16⟩, hle⟩⟩
  cases e with
  | none => exact hsame (by rw [hqn]; exact tikq_nil (by rw [hka]; rfl)) (fun x hx => by cases hx)
  | some x =>
    obtain ⟨hx1, hx2⟩ := he x rfl
    have hQ : TQ m k.adv.t0 (tmO clock (some x)) [0] := by rw [hka]; exact h.q
    have hst := tikq_step (f := 1024) (k := k.adv) h.len hQ
    have haf : aftB (tmO clock (some x) 0) k.adv.k0 = decide (((n + 1 : Nat) : Int) ≤ x) := by
      rw [hka]
      show aftB (IntKind.i32.wrap (IntKind.i32.wrap (clock + x) + 1)) (IntKind.i32.wrap (clock + ((n + 1 : Nat) : Int))) = _
      unfold aftB
      congr 1
      rw [IntKind.wrap_i32, IntKind.wrap_i32, IntKind.wrap_i32, IntKind.wrap_i32]
      apply propext
      constructor <;> intro h <;> omega
    rw [haf] at hst
    by_cases hle : ((n + 1 : Nat) : Int) ≤ x
    · rw [decide_eq_true hle, cond_true] at hst
      exact hsame (by rw [hqn]; exact hst) (fun y hy => by cases hy; exact hle)
    · rw [decide_eq_false hle, cond_false] at hst
      have hxn : x = (n : Int) := by omega
      have hck : I32 k.adv.k0 := by rw [hka]; exact I32_wrap _
      obtain ⟨k', m', hw, hl', hQ', hR', hk', _, g12, g16, g20, g0⟩ := wak_law (k := k.adv) (R := []) h.len hQ (by rw [hka]; exact ⟨rfl, rfl, trivial, List.nodup_nil, fun i hi => (by cases hi)⟩) (by simp) h.b12 hck
      rw [hw] at hst
      have ht0 : k'.t0 = NP := hQ'.hd
      have hf0 : k'.f0 = spc 0 := hR'.f
      have hb0 : k'.b0 = spc 0 := hR'.b
      have hst' : tikQ queN k.adv m 0 = some (k', m') := by
        rw [hqn, hst]
        show tikQ (1023 + 1) k' m' 0 = _
        exact tikq_nil ht0
      have hkk : k' = { kA (IntKind.i32.wrap (clock + ((n + 1 : Nat) : Int))) c1' tk' NP with f0 := spc 0, b0 := spc 0 } := by rw [hk', ht0, hf0, hb0, hka]; rfl
      refine ⟨k', m', hidle _ _ (by rw [hkk]; rfl) hst' hh, .inr ⟨by rw [hxn], ⟨hl', ⟨c1', tk', hkk, h1', h2'⟩⟩, ⟨hl', ?_, g16, ?_⟩⟩⟩
      · have := h.b0
        rw [show spc 0 - 0 = spc 0 by simp] at this ⊢
        rw [g0]; exact this
      · rw [g20, hka]; rfl
end Go.Proofs

namespace Go.Proofs
open Go Go.Sx
set_option maxRecDepth 10000
/-- While guards are disabled. -/
structure ChI (clock now : Int) (G : List Gd) (i : Nat) (ch : Bool) (t : Int) (m : Ram) : Prop where
  len : m.l.length = 2048
  cs : (t = NP ∧ m.word (spc 0 - 16) = tSet ∧ m.word (spc 0 - 20) = IntKind.i32.wrap (clock + now) ∧ (m.word (spc 0 - 0) == -1) = !ch) ∨
    (ch = false ∧ (∀ g ∈ G, g.on = true → now ≤ g.d) ∧ ((t = NP ∧ m.word (spc 0 - 16) = tNot) ∨ ((∃ T, TQ m t T [0]) ∧ ∀ g ∈ G.take i, g.on = false)))
theorem ch_on {clock now : Int} {G : List Gd} {m : Ram} (h : OnI clock now (mn G) m) (_h0 : mn G = none → now = 0) : ChI clock now G 0 false NP m := by
  refine ⟨h.len, ?_⟩
  cases he : mn G with
  | none =>
    refine .inr ⟨rfl, fun g hg ho => ?_, .inl ⟨rfl, by rw [h.b16, he]; rfl⟩⟩
    rw [mn_none he g hg] at ho; cases ho
  | some x => exact .inl ⟨rfl, by rw [h.b16, he]; rfl, h.b20, by rw [h.b0]; rfl⟩
theorem early_law {clock : Int} {G : List Gd} {n : Nat} {k : Core} {m : Ram} (h : WaI clock (mn G) n k m) (hle : ∀ x, mn G = some x → (n : Int) ≤ x) :
    ∃ k' m', m.err (spc 0 - 12) = 0 ∧ m.set (spc 0 - 12) (-2147483645) = m' ∧ appR k m' (spc 0) = (k', 0, m') ∧ RdI clock n (fstQ (qO (mn G))) k' m' ∧ ChI clock n G 0 false (fstQ (qO (mn G))) m' ∧ k.ok := by
  obtain ⟨c1, tk, hk, h1, h2⟩ := h.kf
  have hl := h.len
  have hR : I32 (-2147483645) := ⟨by decide, by decide⟩
  have hl' : (m.set (spc 0 - 12) (-2147483645)).l.length = 2048 := by rw [set_len]; exact hl
  obtain ⟨m', hm'⟩ : ∃ m', m.set (spc 0 - 12) (-2147483645) = m' := ⟨_, rfl⟩
  have wd : ∀ e, (0 ≤ e ∧ e ≤ 28 ∧ e % 4 = 0) → e ≠ 12 → m'.word (spc 0 - e) = m.word (spc 0 - e) := fun e he hne => by
    rw [← hm', sz hl (by decide) he hR, if_neg hne]
  rw [hm'] at hl'
  have hQ : QI k m' false [] := by rw [hk]; exact ⟨rfl, rfl, trivial, List.nodup_nil, fun i hi => (by cases hi)⟩
  obtain ⟨ha, _, _⟩ := app_law (i := 0) hl' hQ (by decide) (by simp)
  refine ⟨appK k false [] 0, m', inB_err hl (spc_in (by decide) (by decide) (by decide) (by decide)), hm', ?_, ⟨hl', ⟨c1, tk, by rw [hk]; rfl, h1, h2⟩⟩, ⟨hl', .inr ⟨rfl, fun g hg ho => ?_, ?_⟩⟩, by rw [hk]; exact kA_ok (I32_wrap _) h1 h2 (fq_I32 _)⟩
  · have e : spc 0 + (bif false then (1 : Int) else 0) = spc 0 := by simp
    rw [e] at ha; exact ha
  · obtain ⟨x, hx, hxl⟩ := mn_le G g hg ho
    have := hle x hx
    omega
  · cases he : mn G with
    | none =>
      left
      exact ⟨rfl, by rw [wd 16 (by decide) (by decide)]; exact h.b16 he⟩
    | some x =>
      right
      refine ⟨⟨tmO clock (mn G), ?_⟩, fun g hg => by simp at hg⟩
      have hq := h.q
      rw [he] at hq ⊢
      refine TQ.keep (m := m) hq (fun i hi => ?_) (fun i hi => ?_)
      · rw [show i = 0 from List.mem_singleton.1 hi]; exact wd 16 (by decide) (by decide)
      · rw [show i = 0 from List.mem_singleton.1 hi]; exact wd 20 (by decide) (by decide)
theorem settle_law {clock t : Int} {n : Nat} {k : Core} {m : Ram} (h : RdI clock n t k m) (ht : I32 t) :
    ∃ c1 tk ip, setR k m = (kC (IntKind.i32.wrap (clock + (n : Int))) c1 tk t ip 0 0 0, 0) ∧ k.f0 = spc 0 ∧ k.ok ∧ I32 c1 ∧ I32 tk ∧ I32 ip ∧ k.busy = false := by
  obtain ⟨c1, tk, hk, h1, h2⟩ := h.kf
  have hf : k.f0 = spc 0 := by rw [hk]
  refine ⟨c1, tk, m.word (spc 0 - 4), ?_, hf, ?_, h1, h2, word_I32 _ _, by rw [hk]; rfl⟩
  · rw [set_next h.len (by rw [hk]; rfl) (by rw [hk]; rfl) (by rw [hk]; rfl) (qI_one hf (by rw [hk])), hk]; rfl
  · have h3 := kA_ok (I32_wrap (clock + (n : Int))) h1 h2 ht
    rw [hk]
    exact { h3 with f0 := spc_I32 (i := 0) (by decide), b0 := spc_I32 (i := 0) (by decide) }
/-- Whether a guard is selected. -/
def wantB (g : Gd) (now : Int) (ch : Bool) : Bool := bif (bif g.on then decide (g.d < now) else false) then !ch else false
theorem dist_law {clock now c0 c1 tk t ip : Int} {G : List Gd} {g : Gd} {i : Nat} {ch : Bool} {m : Ram} (h : ChI clock now G i ch t m) (hg : G[i]? = some g) (hi : i < 8) (hnow : 0 ≤ now ∧ now ≤ 64) (ht : I32 t) :
    ∃ t' m', texR (kC c0 c1 tk t ip ((i : Int) + 5) (bif g.on then 1 else 0) (IntKind.i32.wrap (clock + g.d))) m 15 46 = (kC c0 c1 tk t' ip (bif wantB g now ch then 1 else 0) 0 0, 0, m') ∧ ChI clock now G (i + 1) (ch || wantB g now ch) t' m' ∧ I32 t' ∧
      (wantB g now ch = true → m'.word (spc 0 - 0) = (i : Int) + 5) := by
  obtain ⟨k, hk⟩ : ∃ k, kC c0 c1 tk t ip ((i : Int) + 5) (bif g.on then 1 else 0) (IntKind.i32.wrap (clock + g.d)) = k := ⟨_, rfl⟩
  have hl := h.len
  have hgm : g ∈ G := List.mem_of_getElem? hg
  have hd := g.d_in
  have hv : validB m k.wptr = true := by rw [← hk]; exact spc_valid hl (by decide)
  have hx : excR k m 46 = disR k m := by
    unfold excR
    rw [show ((46 : Int) == 34) = false from rfl, show ((46 : Int) == 84) = false from rfl, show ((46 : Int) == 43) = false from rfl, show ((46 : Int) == 78) = false from rfl, show ((46 : Int) == 71) = false from rfl, show ((46 : Int) == 81) = false from rfl, show ((46 : Int) == 46) = true from rfl, hv]; rfl
  have hT : ∀ k' m', disR k m = some (k', m') → texR k m 15 46 = (k', 0, m') := fun k' m' h => by
    unfold texR; rw [hx, h, show priB k.pri = true by rw [← hk]; rfl, show k.busy = true by rw [← hk]; rfl]; rfl
  have hkw : k.wptr = spc 0 := by rw [← hk]; rfl
  have hkb : (k.b == 0) = !g.on := by rw [← hk]; show ((bif g.on then (1 : Int) else 0) == 0) = !g.on; cases g.on <;> rfl
  have hkc : k.c = IntKind.i32.wrap (clock + g.d) := by rw [← hk]; rfl
  have habc : ∀ a, k.abc a = kC c0 c1 tk t ip a 0 0 := fun a => by rw [← hk]; rfl
  have hE : disR k m = bif bif !g.on then true else m.word (spc 0 - 16) == tNot then some (k.abc 0, m) else bif m.word (spc 0 - 16) == tSet then
      bif bif aftB (m.word (spc 0 - 20)) (IntKind.i32.wrap (clock + g.d)) then m.word (spc 0 - 0) == -1 else false then some (k.abc 1, m.set (spc 0 - 0) k.a) else some (k.abc 0, m) else disE k (remR k m k.wptr k.pri) := by
    unfold disR
    rw [hkw, hkb, hkc, w0, w16, w20]
  have hka : k.a = (i : Int) + 5 := by rw [← hk]; rfl
  have htk : ∀ {p : Gd → Prop}, (∀ x ∈ G.take i, p x) → p g → ∀ x ∈ G.take (i + 1), p x := fun h1 h2 x hx => by
    rw [List.take_add_one, hg] at hx
    rcases List.mem_append.1 hx with hx | hx
    · exact h1 x hx
    · simp at hx; rw [hx]; exact h2
  rw [hk]
  cases ho : g.on with
  | false =>
    have hw : wantB g now ch = false := by unfold wantB; rw [ho]; rfl
    rw [ho] at hE
    have hE' : disR k m = some (k.abc 0, m) := hE
    refine ⟨t, m, by rw [hT _ _ hE', habc, hw]; rfl, ⟨hl, ?_⟩, ht, fun h => by rw [hw] at h; cases h⟩
    rw [hw, Bool.or_false]
    rcases h.cs with h1 | ⟨h1, h2, h3⟩
    · exact .inl h1
    · refine .inr ⟨h1, h2, ?_⟩
      rcases h3 with h3 | ⟨h3, h4⟩
      · exact .inl h3
      · exact .inr ⟨h3, htk h4 ho⟩
  | true =>
    rw [ho, Bool.not_true, cond_false] at hE
    rcases h.cs with ⟨h1, h2, h3, h4⟩ | ⟨h1, h2, h3⟩
    · rw [h2, show (tSet == tNot) = false from rfl, cond_false, show (tSet == tSet) = true from rfl, cond_true, h3, aft_cc (by omega) (by omega), h4] at hE
      have hw : wantB g now ch = (bif decide (g.d < now) then !ch else false) := by unfold wantB; rw [ho]; rfl
      cases hwv : (bif decide (g.d < now) then !ch else false) with
      | false =>
        rw [hwv] at hE hw
        refine ⟨t, m, by rw [hT _ _ hE, habc, hw]; rfl, ⟨hl, .inl ⟨h1, h2, h3, by rw [hw, Bool.or_false]; exact h4⟩⟩, ht, fun h => by rw [hw] at h; cases h⟩
      | true =>
        rw [hwv] at hE hw
        rw [hka] at hE
        have hI : I32 ((i : Int) + 5) := by unfold I32; omega
        have e0 : (m.set (spc 0 - 0) ((i : Int) + 5)).word (spc 0 - 0) = (i : Int) + 5 := by rw [sz hl (by decide) (by decide) hI, if_pos rfl]
        refine ⟨t, m.set (spc 0 - 0) ((i : Int) + 5), by rw [hT _ _ hE, habc, hw]; rfl, ⟨by rw [set_len]; exact hl, .inl ⟨h1, ?_, ?_, ?_⟩⟩, ht, fun _ => e0⟩
        · rw [sz hl (by decide) (by decide) hI, if_neg (by decide)]; exact h2
        · rw [sz hl (by decide) (by decide) hI, if_neg (by decide)]; exact h3
        · rw [e0, hw, Bool.or_true]; simp; omega
    · have hge := h2 g hgm ho
      have hw : wantB g now ch = false := by unfold wantB; rw [ho, cond_true, decide_eq_false (by omega)]; rfl
      rcases h3 with ⟨h3, h4⟩ | ⟨⟨T, h3⟩, h4⟩
      · rw [h4, show (tNot == tNot) = true from rfl, cond_true] at hE
        refine ⟨t, m, by rw [hT _ _ hE, habc, hw]; rfl, ⟨hl, ?_⟩, ht, fun h => by rw [hw] at h; cases h⟩
        rw [hw, Bool.or_false]
        exact .inr ⟨h1, h2, .inl ⟨h3, h4⟩⟩
      · have hlnk : m.word (spc 0 - 16) = NP := h3.ch.1
        rw [hlnk, show (NP == tNot) = false from rfl, cond_false, show (NP == tSet) = false from rfl, cond_false] at hE
        have hkt : k.tm false = t := by rw [← hk]; rfl
        obtain ⟨k', m', hR, hl', hQ', hk', _⟩ := rem_law (k := k) (o := false) (p := 0) (T := T) (A := []) (B := []) (j := 0) hl (by rw [hkt]; exact h3) (by decide) rfl
        have hkp : k.pri = 0 := by rw [← hk]; rfl
        rw [hkp, hkw, hR, disE] at hE
        dsimp only at hE
        rw [hkw, w16] at hE
        have hN : I32 tNot := ⟨by decide, by decide⟩
        have hka' : k'.abc 0 = kC c0 c1 tk NP ip 0 0 0 := by rw [hk', ← hk]; rfl
        refine ⟨NP, m'.set (spc 0 - 16) tNot, by rw [hT _ _ hE, hka', hw]; rfl, ⟨by rw [set_len]; exact hl', ?_⟩, ⟨by decide, by decide⟩, fun h => by rw [hw] at h; cases h⟩
        rw [hw, Bool.or_false]
        exact .inr ⟨h1, h2, .inl ⟨rfl, by rw [sz hl' (by decide) (by decide) hN, if_pos rfl]⟩⟩
/-- What its timer queue holds in the end. -/
theorem endq_law {clock now c0 c1 tk t ip a b c : Int} {G : List Gd} {ch : Bool} {m : Ram} (h : ChI clock now G G.length ch t m) :
    ∃ L, tqeR (kC c0 c1 tk t ip a b c) m 0 = (L, 0) ∧ ((L.length = 0) ∨ ∀ g ∈ G, g.on = false) := by
  have hnil : t = NP → tqeR (kC c0 c1 tk t ip a b c) m 0 = ([], 0) := fun ht =>
    tqe_law (o := false) (T := fun _ => 0) (Q := []) h.len ⟨ht, trivial, fun i hi => (by cases hi), fun i hi => (by cases hi), List.nodup_nil⟩ (by decide) rfl rfl
  rcases h.cs with ⟨h1, _⟩ | ⟨_, _, ⟨h3, _⟩ | ⟨⟨T, h3⟩, h4⟩⟩
  · exact ⟨[], hnil h1, .inl rfl⟩
  · exact ⟨[], hnil h3, .inl rfl⟩
  · refine ⟨_, tqe_law (k := kC c0 c1 tk t ip a b c) (o := false) (T := T) (Q := [0]) h.len h3 (by decide) rfl rfl, .inr ?_⟩
    rw [List.take_length] at h4
    exact h4
end Go.Proofs

namespace Go.Proofs
open Go Go.Sx
set_option maxRecDepth 10000
theorem gd_conv {x : Int} {clock : Int} (h : 0 ≤ x ∧ x < 256) : IntKind.i32.wrap (IntKind.i32.wrap (clock + IntKind.i32.wrap (x.tmod 64)) - 8) = IntKind.i32.wrap (clock + (x % 64 - 8)) := by
  rw [Int.tmod_eq_emod_of_nonneg h.1, IntKind.wrap_i32, IntKind.wrap_i32, IntKind.wrap_i32, IntKind.wrap_i32]; omega
noncomputable abbrev ctEa : CT := [(f_l32_op, in_l32_op []), (f_timer_Exec, eTExec), (f_mem_Mem_SetWord, eSetWordT)]
theorem ctEa_ok : CTok Try.prog ctEa := ⟨in_l32_op_ok (ct := []) trivial, con_ok cal_timer_Exec _, con_ok cal_mem_Mem_SetWord _, trivial⟩
set_option maxHeartbeats 4000000 in
theorem lenable_c (clock : Int) (G : List Gd) (cap : Nat) (ready : Bool) (m : Ram) (hck : I32 clock) (hG : ∀ g ∈ G, g.good) (hn : G.length ≤ 8) (hl : m.l.length = 2048) :
    Con Try.prog f_l32_enable [.agg (kC clock 0 0 NP 0 0 0 0).sv, .s (.loc 0 0), .s (.sl 1 0 G.length cap), .s (.bool ready)] [.blk 33 [.sl 2 0 m.l.length m.l.length], .view (gdV G), mOwn m.l]
    (.all (Core × Ram) (fun x => TwI clock (mn G) ready x.1 x.2) fun x => .ret (.tup [.agg x.1.sv, .s (.bool true)]) [.blk 33 [.sl 2 0 x.2.l.length x.2.l.length], .view (gdV G), mOwn x.2.l]) := by
  intro K hK
  have hI0 : I32 0 := ⟨by decide, by decide⟩
  have hNP : I32 NP := ⟨by decide, by decide⟩
  have hkok : ∀ a b, I32 a → I32 b → (kC clock 0 0 NP 0 a b 0).ok := fun a b ha hb => kC_ok hck hI0 hI0 hNP hI0 ha hb hI0
  refine enter fn_l32_enable rfl nt_l32_enable rfl rfl (fun φ w0 β0 F => ?_)
  refine c_run tt_ok ctEa_ok k_l32_enable [] 90 (by kernel_rfl) ?_
  obtain ⟨m1, hT1, hE1⟩ := talt_law (c0 := clock) (c1 := 0) (tk := 0) (t := NP) (ip := 0) (a := 0) (b := 0) (c := 0) (clock := clock) hl
  show WpC _ _ _ _ _
  refine c_merge [(1, .t (.s (.loc 0 0)), none), (2, .t (.s (.sl 1 0 G.length cap)), none), (3, .t (.s (.bool ready)), none), (4, .t (.s (.loc 3 0)), none), (8, .t (.s (.loc 4 0)), none), (9, .t (.s (.bool false)), none), (10, .t (.s (.int .i32 clock)), none), (11, .t (.s (.int .i64 0)), none)]
    [.blk 33 [.sl 2 0 m1.l.length m1.l.length], .view (gdV G), mOwn m1.l, .blk 26 (kC clock 0 0 NP 0 0 0 0).sv, .blk 26 Core.zero.sv] (fun key => ?ways0) ?cont0
  case ways0 =>
    refine c_waysH tt_ok ctEa_ok k_l32_enable [3] rfl rfl rfl ?_
    repeat' (first | exact trivial | exact ⟨rfl, trivial⟩ | (refine Exists.intro (m, kC clock 0 0 NP 0 0 0 0, 0, m1) ?_; refine And.intro ⟨rfl, rfl, rfl, rfl, hkok 0 0 hI0 hI0, hT1⟩ ?_) | (refine And.intro ?_ ?_) | (refine fun _ => ?_))
    all_goals
      refine WpE.into ?_ key
      exact into [0, 1, 2, 3, 4] ⟨⟨_, rfl, rfl⟩, ⟨_, rfl, rfl⟩, ⟨_, rfl, rfl⟩, ⟨_, rfl, rfl⟩, ⟨_, rfl, rfl⟩, ⟨_, rfl, rfl⟩, ⟨_, rfl, rfl⟩, ⟨_, rfl, rfl⟩, trivial⟩ ⟨_, rfl, rfl⟩ rfl rfl rfl rfl
  refine e_run tt_ok ctEa_ok k_l32_enable [] 90 (by kernel_rfl) ?_
  show WpC _ _ _ _ _
  refine c_loop (α := Nat × Int × Ram) (fun x => x.1 ≤ G.length ∧ I32 x.2.1 ∧ EnI clock (mn (G.take x.1)) x.2.2) (fun x => G.length - x.1)
    (fun x => [(1, .t (.s (.loc 0 0)), none), (2, .t (.s (.sl 1 0 G.length cap)), none), (3, .t (.s (.bool ready)), none), (4, .t (.s (.loc 3 0)), none), (8, .t (.s (.loc 4 0)), none), (9, .t (.s (.bool false)), none), (10, .t (.s (.int .i32 clock)), none), (11, .t (.s (.int .i64 0)), none), (12, .t (.s (.int .i64 (x.1 : Int))), none)])
    (fun x => [.blk 33 [.sl 2 0 x.2.2.l.length x.2.2.l.length], .view (gdV G), mOwn x.2.2.l, .blk 26 (kC clock 0 0 NP 0 x.2.1 0 0).sv, .blk 26 Core.zero.sv]) (0, 0, m1) ⟨Nat.zero_le _, hI0, by rw [List.take_zero]; exact hE1⟩ ?_ ?_
  · exact into [0, 1, 2, 3, 4] ⟨⟨_, rfl, rfl⟩, ⟨_, rfl, rfl⟩, ⟨_, rfl, rfl⟩, ⟨_, rfl, rfl⟩, ⟨_, rfl, rfl⟩, ⟨_, rfl, rfl⟩, ⟨_, rfl, rfl⟩, ⟨_, rfl, rfl⟩, ⟨_, rfl, rfl⟩, trivial⟩ ⟨_, rfl, rfl⟩ rfl rfl rfl rfl
  rintro ⟨i, a, m⟩ ⟨hi, ha, hE⟩
  simp only at hi ha hE
  dsimp only
  refine c_run' tt_ok ctEa_ok k_l32_enable [100049, 100065] 90 (by kernel_rfl) (by kernel_rfl) ?_
  refine ⟨fun h1 => ?_, fun h1 => ?_⟩
  · have hlt : i < G.length := by
      by_cases hh : (i : Int) < (G.length : Int)
      · omega
      · rw [show decide ((i : Int) < (G.length : Int)) = false by simpa using hh] at h1; cases h1
    obtain ⟨g, hg⟩ : ∃ g, G[i]? = some g := ⟨_, List.getElem?_eq_getElem hlt⟩
    have hgd := hG g (List.mem_of_getElem? hg)
    have hbd := tab_bound gd_len (l := G) hlt
    have hc0 : (gdV G)[0 + i * 2 + 0]? = some (.bool g.on) := tab_cell gd_len hg (by decide) rfl
    have hc1 : (gdV G)[0 + i * 2 + 1]? = some (.int .u8 g.dl) := tab_cell gd_len hg (by decide) rfl
    refine ⟨i, ⟨rfl, hlt, hbd⟩, .bool g.on, rfl, hc0, ?_⟩
    obtain ⟨m', hT, hE'⟩ := enbt_law (c0 := clock) (c1 := 0) (tk := 0) (t := NP) (ip := 0) (c := 0) (g := g) hE (fun x hx => mn_in _ hx)
    rw [← mn_snoc, show G.take i ++ [g] = G.take (i + 1) by rw [List.take_add_one, hg]; rfl] at hE'
    have hI1 : I32 1 := ⟨by decide, by decide⟩
    refine ⟨fun ho => ?_, fun ho => ?_⟩
    · rw [ho] at hT
      refine ⟨i, ⟨rfl, hlt, hbd⟩, .int .u8 g.dl, rfl, hc1, ?_⟩
      refine ⟨.t (.s (.int .i32 (IntKind.i32.wrap (clock + g.d)))), fun β => told_jl (gd_conv hgd).symm, rfl, ?_⟩
      show WpC _ _ _ _ _
      refine c_waysH tt_ok ctEa_ok k_l32_enable [] rfl rfl rfl ?_
      repeat' (first | exact trivial | exact ⟨rfl, trivial⟩ | (refine Exists.intro (m, kC clock 0 0 NP 0 1 0 0, 0, m') ?_; refine And.intro ⟨rfl, rfl, rfl, rfl, hkok 1 _ hI1 (I32_wrap _), hT⟩ ?_) | (refine And.intro ?_ ?_) | (refine fun _ => ?_))
      all_goals
        refine e_run tt_ok ctEa_ok k_l32_enable [] 90 (by kernel_rfl) ?_
        exact e_again (i + 1, 1, m') ⟨hlt, hI1, hE'⟩ (by dsimp only; omega) (into [0, 1, 2, 3, 4] ⟨⟨_, rfl, rfl⟩, ⟨_, rfl, rfl⟩, ⟨_, rfl, rfl⟩, ⟨_, rfl, rfl⟩, ⟨_, rfl, rfl⟩, ⟨_, rfl, rfl⟩, ⟨_, rfl, rfl⟩, ⟨_, rfl, rfl⟩, ⟨_, rfl, fvi (wrapSucc (by omega))⟩, trivial⟩ ⟨_, rfl, rfl⟩ rfl rfl rfl rfl)
    · rw [ho] at hT
      refine ⟨i, ⟨rfl, hlt, hbd⟩, .int .u8 g.dl, rfl, hc1, ?_⟩
      refine ⟨.t (.s (.int .i32 (IntKind.i32.wrap (clock + g.d)))), fun β => told_jl (gd_conv hgd).symm, rfl, ?_⟩
      show WpC _ _ _ _ _
      refine c_waysH tt_ok ctEa_ok k_l32_enable [] rfl rfl rfl ?_
      repeat' (first | exact trivial | exact ⟨rfl, trivial⟩ | (refine Exists.intro (m, kC clock 0 0 NP 0 0 0 0, 0, m') ?_; refine And.intro ⟨rfl, rfl, rfl, rfl, hkok 0 _ hI0 (I32_wrap _), hT⟩ ?_) | (refine And.intro ?_ ?_) | (refine fun _ => ?_))
      all_goals
        refine e_run tt_ok ctEa_ok k_l32_enable [] 90 (by kernel_rfl) ?_
        exact e_again (i + 1, 0, m') ⟨hlt, hI0, hE'⟩ (by dsimp only; omega) (into [0, 1, 2, 3, 4] ⟨⟨_, rfl, rfl⟩, ⟨_, rfl, rfl⟩, ⟨_, rfl, rfl⟩, ⟨_, rfl, rfl⟩, ⟨_, rfl, rfl⟩, ⟨_, rfl, rfl⟩, ⟨_, rfl, rfl⟩, ⟨_, rfl, rfl⟩, ⟨_, rfl, fvi (wrapSucc (by omega))⟩, trivial⟩ ⟨_, rfl, rfl⟩ rfl rfl rfl rfl)
  · have hz : i = G.length := by
      by_cases hh : (i : Int) < (G.length : Int)
      · rw [show decide ((i : Int) < (G.length : Int)) = true by simpa using hh] at h1; cases h1
      · omega
    rw [hz, List.take_length] at hE
    refine ⟨fun h => absurd (show ((0 : Int) != 0) = true from h) (by decide), fun _ => ?_⟩
    have hl := hE.len
    refine ⟨fun hr => ?_, fun hr => ?_⟩
    · obtain ⟨m2, hm2⟩ : ∃ m2, m.set (spc 0 - 12) (-2147483645) = m2 := ⟨_, rfl⟩
      have hR : I32 (-2147483645) := ⟨by decide, by decide⟩
      obtain ⟨k', m', hT, hTw⟩ := taltwt_law (clock := clock) (c1 := 0) (tk := 0) (ip := 0) (a := a) (b := 0) (c := 0) (e := mn G) (m := m2) (ready := true) hck ⟨hI0, hI0, hI0, ha, hI0, hI0⟩ (by rw [← hm2, set_len]; exact hl)
        (by rw [← hm2, sz hl (by decide) (by decide) hR, if_pos rfl]; rfl) (by rw [← hm2, sz hl (by decide) (by decide) hR, if_neg (by decide)]; exact hE.b16) (fun x hx => by rw [← hm2, sz hl (by decide) (by decide) hR, if_neg (by decide)]; exact hE.b20 x hx) (fun x hx => mn_in _ hx)
      rw [← hr] at hTw
      refine ⟨.t (.s (.int .i32 (spc 0 - 12))), fun β => told_jl (by decide), rfl, ?_⟩
      refine ⟨m, ⟨rfl, rfl, rfl, rfl, ⟨by decide, by decide⟩⟩, ?_⟩
      rw [hm2]
      show WpC _ _ _ _ _
      refine c_waysH tt_ok ctEa_ok k_l32_enable [] rfl rfl rfl ?_
      repeat' (first | exact trivial | exact ⟨rfl, trivial⟩ | (refine Exists.intro (m2, k', 0, m') ?_; refine And.intro ⟨rfl, rfl, rfl, rfl, hkok a 0 ha hI0, hT⟩ ?_) | (refine And.intro ?_ ?_) | (refine fun _ => ?_))
      all_goals
        refine e_run tt_ok ctEa_ok k_l32_enable [] 90 (by kernel_rfl) ?_
        exact fin_k tt_ok (rs := rs_l32_enable) rfl rfl (hK (k', m') hTw) [0, 1, 2] rfl rfl rfl rfl rfl rfl
    · obtain ⟨k', m', hT, hTw⟩ := taltwt_law (clock := clock) (c1 := 0) (tk := 0) (ip := 0) (a := a) (b := 0) (c := 0) (e := mn G) (m := m) (ready := false) hck ⟨hI0, hI0, hI0, ha, hI0, hI0⟩ hl
        hE.b12 hE.b16 hE.b20 (fun x hx => mn_in _ hx)
      rw [← hr] at hTw
      show WpC _ _ _ _ _
      refine c_waysH tt_ok ctEa_ok k_l32_enable [] rfl rfl rfl ?_
      repeat' (first | exact trivial | exact ⟨rfl, trivial⟩ | (refine Exists.intro (m, k', 0, m') ?_; refine And.intro ⟨rfl, rfl, rfl, rfl, hkok a 0 ha hI0, hT⟩ ?_) | (refine And.intro ?_ ?_) | (refine fun _ => ?_))
      all_goals
        refine e_run tt_ok ctEa_ok k_l32_enable [] 90 (by kernel_rfl) ?_
        exact fin_k tt_ok (rs := rs_l32_enable) rfl rfl (hK (k', m') hTw) [0, 1, 2] rfl rfl rfl rfl rfl rfl
noncomputable abbrev eLenable : Ent := .st (conS (P := Try.prog) (f := f_l32_enable) fun cargs σ0 => match cargs, σ0 with
  | [.agg cs, .s (.loc 0 0), .s (.sl 1 0 n cap), .s (.bool ready)], [.blk 33 [.sl 2 0 k k'], .view ys, .own 5 1 c xs] =>
    some ⟨.ex (Int × List Gd × Ram) fun p => .ask (cs = (kC p.1 0 0 NP 0 0 0 0).sv ∧ n = p.2.1.length ∧ ys = gdV p.2.1 ∧ k = p.2.2.l.length ∧ k' = p.2.2.l.length ∧ c = p.2.2.l.length ∧ xs = bytesI p.2.2.l ∧ (I32 p.1 ∧ (∀ g ∈ p.2.1, g.good) ∧ p.2.1.length ≤ 8 ∧ p.2.2.l.length = 2048))
      (.all (Core × Ram) (fun x => TwI p.1 (mn p.2.1) ready x.1 x.2) fun x => .ret (.tup [.agg x.1.sv, .s (.bool true)]) [.blk 33 [.sl 2 0 x.2.l.length x.2.l.length], .view (gdV p.2.1), mOwn x.2.l]), fun K h => by
      obtain ⟨⟨clock, G, m⟩, ⟨e1, e2, e3, e4, e5, e6, e7, h1⟩, h⟩ := h
      dsimp only at e1 e2 e3 e4 e5 e6 e7 h1 h
      subst e1; subst e2; subst e3; subst e4; subst e5; subst e6; subst e7
      exact lenable_c clock G cap ready m h1.1 h1.2.1 h1.2.2.1 h1.2.2.2 K h⟩
  | _, _ => none)
end Go.Proofs
