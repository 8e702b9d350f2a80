/- Plain laws: queues of processes in a memory of 2048 bytes. -/
import Derived.Test.YtcjaggapamngmaaWalkC
import Derived.Test.YtcjaggapamngmaaWalkH

namespace Go.Proofs
open Go Go.Sx
set_option maxRecDepth 10000
/-- An address of a word of a memory of 2048 bytes. -/
def inB (a : Int) : Prop := a % 4 = 0 ∧ -2147483648 ≤ a ∧ a < -2147481600
theorem inB_bad {m : Ram} {a : Int} (hl : m.l.length = 2048) (ha : inB a) : wBad m a = false := by
  unfold inB at ha
  unfold wBad spanBad ofAt wAt
  rw [hl, show decide (a - a % 4 + 2147483648 ≥ ((2048 : Nat) : Int)) = false by simp; omega]
  simp; omega
theorem inB_err {m : Ram} {a : Int} (hl : m.l.length = 2048) (ha : inB a) : m.err a = 0 := by unfold Ram.err; rw [inB_bad hl ha]; rfl
theorem word_setB {m : Ram} {a b v : Int} (hl : m.l.length = 2048) (ha : inB a) (hb : inB b) (hv : I32 v) : (m.set a v).word b = if a = b then v else m.word b := by
  have h1 := inB_bad hl ha
  have h2 := inB_bad hl hb
  have hA := wBad_nat h1
  have hB := wBad_nat h2
  unfold Ram.word
  rw [set_wBad, h2, set_ok h1]
  simp only [cond_false]
  split
  · rename_i e; subst e; exact getW_setW hA hv
  · rename_i hne
    unfold inB at ha hb
    unfold ofAt wAt at *
    unfold getW setW
    rw [stW_get hA 4 (by decide), stW_get hA 4 (by decide), stW_get hA 4 (by decide), stW_get hA 4 (by decide)]
    rw [if_neg (by omega), if_neg (by omega), if_neg (by omega), if_neg (by omega)]
/-- The workspace of the process i. -/
def spc (i : Nat) : Int := -2147483488 + 32 * (i : Int)
theorem spc_inj {i j : Nat} (h : spc i = spc j) : i = j := by unfold spc at h; omega
theorem spc_I32 {i : Nat} (h : i < 50) : I32 (spc i) := by unfold I32 spc; omega
theorem spc_in {i : Nat} (h : i < 50) {d : Int} (h0 : 0 ≤ d) (h1 : d ≤ 64) (h4 : d % 4 = 0) : inB (spc i - d) := by unfold inB spc; omega
theorem spc_np {i : Nat} (h : i < 50) : (spc i == NP) = false := by unfold spc NP; simp; omega
theorem spc_valid {m : Ram} {i : Nat} (hl : m.l.length = 2048) (h : i < 50) : validB m (spc i) = true := by
  unfold validB ofAt spc
  rw [hl, show ((-2147483488 + 32 * (i : Int)) % 4 == 0) = true by simp; omega, show decide (-2147483488 + 32 * (i : Int) + 2147483648 ≥ 20) = true by simp; omega]
  simp; omega
def fstQ : List Nat → Int
  | [] => NP
  | i :: _ => spc i
def lstQ : List Nat → Int
  | [] => NP
  | [i] => spc i
  | _ :: j :: t => lstQ (j :: t)
def Chn (m : Ram) : List Nat → Prop
  | [] => True
  | [_] => True
  | i :: j :: t => m.word (spc i - 8) = spc j ∧ Chn m (j :: t)
/-- The processes Q lie in the queue of priority o. -/
structure QI (k : Core) (m : Ram) (o : Bool) (Q : List Nat) : Prop where
  f : k.fr o = fstQ Q
  b : k.bk o = lstQ Q
  c : Chn m Q
  nd : Q.Nodup
  lt : ∀ i ∈ Q, i < 50
theorem lstQ_app : ∀ (Q : List Nat) (i : Nat), lstQ (Q ++ [i]) = spc i
  | [], _ => rfl
  | [_], _ => rfl
  | _ :: j :: t, i => lstQ_app (j :: t) i
theorem fstQ_app {Q : List Nat} (h : Q ≠ []) (i : Nat) : fstQ (Q ++ [i]) = fstQ Q := by
  cases Q with
  | nil => exact absurd rfl h
  | cons a t => rfl
theorem lstQ_mem : ∀ {Q : List Nat}, Q ≠ [] → ∃ j ∈ Q, lstQ Q = spc j
  | [], h => absurd rfl h
  | [i], _ => ⟨i, by simp, rfl⟩
  | a :: j :: t, _ => by
    obtain ⟨x, hx, h⟩ := lstQ_mem (Q := j :: t) (by simp)
    exact ⟨x, List.mem_cons_of_mem _ hx, h⟩
theorem chn_app {m : Ram} (hl : m.l.length = 2048) : ∀ {Q : List Nat} {i j : Nat}, Chn m Q → Q.Nodup → (∀ x ∈ Q, x < 50) → i < 50 → j ∈ Q → lstQ Q = spc j → Chn (m.set (spc j - 8) (spc i)) (Q ++ [i])
  | [], _, _, _, _, _, _, hj, _ => by simp at hj
  | [a], i, j, _, _, hlt, hi, hj, hlq => by
    have e := spc_inj hlq
    subst e
    refine ⟨?_, trivial⟩
    rw [word_setB hl (spc_in (hlt a (by simp)) (by decide) (by decide) (by decide)) (spc_in (hlt a (by simp)) (by decide) (by decide) (by decide)) (spc_I32 hi), if_pos rfl]
  | a :: b :: t, i, j, hc, hn, hlt, hi, hj, hlq => by
    have hjb : j ∈ b :: t := by
      obtain ⟨x, hx, e⟩ := lstQ_mem (Q := b :: t) (by simp)
      have : spc j = spc x := by rw [← hlq]; exact e
      rw [spc_inj this]; exact hx
    have haj : a ≠ j := fun e => by subst e; exact (List.nodup_cons.1 hn).1 hjb
    refine ⟨?_, chn_app hl hc.2 (List.nodup_cons.1 hn).2 (fun x hx => hlt x (List.mem_cons_of_mem _ hx)) hi hjb hlq⟩
    rw [word_setB hl (spc_in (hlt j hj) (by decide) (by decide) (by decide)) (spc_in (hlt a (by simp)) (by decide) (by decide) (by decide)) (spc_I32 hi), if_neg (fun e => haj (spc_inj (by omega)))]
    exact hc.1
theorem fr_setF (k : Core) (o : Bool) (w : Int) : (k.setF o w).fr o = w := by cases o <;> rfl
theorem bk_setF (k : Core) (o : Bool) (w : Int) : (k.setF o w).bk o = k.bk o := by cases o <;> rfl
theorem fr_setB (k : Core) (o : Bool) (w : Int) : (k.setB o w).fr o = k.fr o := by cases o <;> rfl
theorem bk_setB (k : Core) (o : Bool) (w : Int) : (k.setB o w).bk o = w := by cases o <;> rfl
theorem fr_setF' (k : Core) (o : Bool) (w : Int) : (k.setF o w).fr (!o) = k.fr (!o) := by cases o <;> rfl
theorem bk_setF' (k : Core) (o : Bool) (w : Int) : (k.setF o w).bk (!o) = k.bk (!o) := by cases o <;> rfl
theorem fr_setB' (k : Core) (o : Bool) (w : Int) : (k.setB o w).fr (!o) = k.fr (!o) := by cases o <;> rfl
theorem bk_setB' (k : Core) (o : Bool) (w : Int) : (k.setB o w).bk (!o) = k.bk (!o) := by cases o <;> rfl
theorem chn_keep {m m' : Ram} : ∀ {Q : List Nat}, Chn m Q → (∀ i ∈ Q, m'.word (spc i - 8) = m.word (spc i - 8)) → Chn m' Q
  | [], _, _ => trivial
  | [_], _, _ => trivial
  | a :: b :: t, hc, h => ⟨(h a (by simp)).trans hc.1, chn_keep hc.2 fun i hi => h i (List.mem_cons_of_mem _ hi)⟩
/-- A core whose queue o is as it was, over a memory whose links are as they were. -/
theorem QI.keep {k k' : Core} {m m' : Ram} {o : Bool} {Q : List Nat} (h : QI k m o Q) (hf : k'.fr o = k.fr o) (hb : k'.bk o = k.bk o) (hm : ∀ i ∈ Q, m'.word (spc i - 8) = m.word (spc i - 8)) : QI k' m' o Q :=
  ⟨hf.trans h.f, hb.trans h.b, chn_keep h.c hm, h.nd, h.lt⟩
def appK (k : Core) (o : Bool) (Q : List Nat) (i : Nat) : Core := match Q with
  | [] => (k.setF o (spc i)).setB o (spc i)
  | _ => k.setB o (spc i)
def appM (m : Ram) (Q : List Nat) (i : Nat) : Ram := match Q with
  | [] => m
  | _ => m.set (lstQ Q - 8) (spc i)
theorem wsp_spc (i : Nat) (o : Bool) : wsp (spc i + bif o then 1 else 0) = spc i ∧ odd (spc i + bif o then 1 else 0) = o := by
  cases o
  · refine ⟨?_, ?_⟩
    · show wsp (spc i + 0) = _
      unfold wsp spc; omega
    · show odd (spc i + 0) = _
      unfold odd spc; simp; omega
  · refine ⟨?_, ?_⟩
    · show wsp (spc i + 1) = _
      unfold wsp spc; omega
    · show odd (spc i + 1) = _
      unfold odd spc; simp; omega
theorem app_law {k : Core} {m : Ram} {o : Bool} {Q : List Nat} {i : Nat} (hl : m.l.length = 2048) (h : QI k m o Q) (hi : i < 50) (hn : i ∉ Q) :
    appR k m (spc i + bif o then 1 else 0) = (appK k o Q i, 0, appM m Q i) ∧ QI (appK k o Q i) (appM m Q i) o (Q ++ [i]) ∧ (appM m Q i).l.length = 2048 := by
  obtain ⟨e1, e2⟩ := wsp_spc i o
  have hv := spc_valid hl hi
  cases Q with
  | nil =>
    refine ⟨?_, ⟨?_, ?_, trivial, by simp, fun j hj => by rw [List.mem_singleton.1 hj]; exact hi⟩, hl⟩
    · unfold appR
      rw [e1, e2, hv, h.f, show (fstQ [] == NP) = true from rfl]
      rfl
    · show ((k.setF o (spc i)).setB o (spc i)).fr o = _
      rw [fr_setB, fr_setF]; rfl
    · show ((k.setF o (spc i)).setB o (spc i)).bk o = _
      rw [bk_setB]; rfl
  | cons a t =>
    obtain ⟨j, hj, hq⟩ := lstQ_mem (Q := a :: t) (by simp)
    have hjl := h.lt j hj
    have hal := h.lt a (by simp)
    refine ⟨?_, ⟨?_, ?_, ?_, ?_, ?_⟩, ?_⟩
    · unfold appR
      rw [e1, e2, hv, h.f, h.b, hq, show (fstQ (a :: t) == NP) = false from spc_np hal, spc_valid hl hjl]
      show (k.setB o (spc i), (0 : Int), m.set (IntKind.i32.wrap (spc j + -8)) (spc i)) = (k.setB o (spc i), 0, m.set (lstQ (a :: t) - 8) (spc i))
      rw [hq, show IntKind.i32.wrap (spc j + -8) = spc j - 8 by rw [IntKind.wrap_i32]; unfold spc; omega]
    · show (k.setB o (spc i)).fr o = _
      rw [fr_setB, h.f]; rfl
    · show (k.setB o (spc i)).bk o = _
      rw [bk_setB, lstQ_app]
    · show Chn (m.set (lstQ (a :: t) - 8) (spc i)) _
      rw [hq]
      exact chn_app hl h.c h.nd h.lt hi hj hq
    · rw [List.nodup_append]
      exact ⟨h.nd, by simp, fun x hx y hy e => hn (by rw [List.mem_singleton.1 hy] at e; rw [← e]; exact hx)⟩
    · intro x hx
      rcases List.mem_append.1 hx with hx | hx
      · exact h.lt x hx
      · rw [List.mem_singleton.1 hx]; exact hi
    · exact (set_len _ _ _).trans hl
def pO (o : Bool) : Int := bif o then 1 else 0
theorem pO_one (o : Bool) : (pO o == 1) = o ∧ priB (pO o) = true := by cases o <;> exact ⟨rfl, rfl⟩
def takK (k : Core) (o : Bool) (Q : List Nat) : Core := match Q with
  | [] => (k.setF o NP).setB o NP
  | _ => k.setF o (fstQ Q)
theorem lstQ_ne {i : Nat} {Q : List Nat} (hn : (i :: Q).Nodup) (hq : Q ≠ []) : (spc i == lstQ (i :: Q)) = false := by
  cases Q with
  | nil => exact absurd rfl hq
  | cons a t =>
    obtain ⟨x, hx, e⟩ := lstQ_mem (Q := a :: t) (by simp)
    have : lstQ (i :: a :: t) = spc x := e
    rw [this]
    have hne : i ≠ x := fun h => by subst h; exact (List.nodup_cons.1 hn).1 hx
    simp only [beq_eq_false_iff_ne, ne_eq]
    exact fun h => hne (spc_inj h)
theorem wrap8 {i : Nat} (h : i < 50) : IntKind.i32.wrap (spc i + -8) = spc i - 8 := by rw [IntKind.wrap_i32]; unfold spc; omega
theorem tak_law {k : Core} {m : Ram} {o : Bool} {i : Nat} {Q : List Nat} (hl : m.l.length = 2048) (h : QI k m o (i :: Q)) :
    takR k m (pO o) = (takK k o Q, spc i, 0) ∧ QI (takK k o Q) m o Q := by
  have hi := h.lt i (by simp)
  obtain ⟨e1, e2⟩ := pO_one o
  have hf : k.fr o = spc i := h.f
  have hstep : takR k m (pO o) = bif spc i == k.bk o then ((k.setF o NP).setB o NP, spc i, 0) else (k.setF o (m.word (spc i - 8)), spc i, 0) := by
    unfold takR
    have e2' : (pO o == 0 || pO o == 1) = true := e2
    rw [e2', e1, hf, spc_np hi, spc_valid hl hi, wrap8 hi]; rfl
  cases Q with
  | nil =>
    refine ⟨?_, ⟨?_, ?_, trivial, List.nodup_nil, fun x hx => by simp at hx⟩⟩
    · rw [hstep, h.b, show (spc i == lstQ [i]) = true by show (spc i == spc i) = true; simp]; rfl
    · show ((k.setF o NP).setB o NP).fr o = _
      rw [fr_setB, fr_setF]; rfl
    · show ((k.setF o NP).setB o NP).bk o = _
      rw [bk_setB]; rfl
  | cons a t =>
    refine ⟨?_, ⟨?_, ?_, h.c.2, (List.nodup_cons.1 h.nd).2, fun x hx => h.lt x (List.mem_cons_of_mem _ hx)⟩⟩
    · rw [hstep, h.b, lstQ_ne h.nd (by simp), h.c.1]; rfl
    · show (k.setF o (fstQ (a :: t))).fr o = _
      rw [fr_setF]
    · show (k.setF o (fstQ (a :: t))).bk o = _
      rw [bk_setF, h.b]; rfl
theorem tak_none {k : Core} {m : Ram} {o : Bool} (h : QI k m o []) : takR k m (pO o) = (.zero, 0, 6) := by
  obtain ⟨e1, e2⟩ := pO_one o
  unfold takR
  have e2' : (pO o == 0 || pO o == 1) = true := e2
  rw [e2', e1, h.f, show (fstQ [] == NP) = true from rfl]; rfl
theorem queL_law {m : Ram} (hl : m.l.length = 2048) : ∀ (Q : List Nat) (i : Nat) (f : Nat) (L : List Int), Chn m (i :: Q) → (i :: Q).Nodup → (∀ x ∈ i :: Q, x < 50) → Q.length + 1 ≤ f → L.length + Q.length + 1 ≤ 1024 →
    queL f m (lstQ (i :: Q)) (spc i) L = (L ++ (i :: Q).map spc, 0)
  | [], i, f, L, _, _, hlt, hf, hL => by
    obtain ⟨f, rfl⟩ : ∃ f', f = f' + 1 := ⟨f - 1, by simp at hf; omega⟩
    rw [queL, spc_valid hl (hlt i (by simp)), show (L.length == 1024) = false by simp at hL ⊢; omega, show (spc i == lstQ [i]) = true by show (spc i == spc i) = true; simp]
    rfl
  | a :: t, i, f, L, hc, hn, hlt, hf, hL => by
    obtain ⟨f, rfl⟩ : ∃ f', f = f' + 1 := ⟨f - 1, by simp at hf; omega⟩
    simp only [List.length_cons] at hf hL
    rw [queL, spc_valid hl (hlt i (by simp)), show (L.length == 1024) = false by simp; omega, lstQ_ne hn (by simp), wrap8 (hlt i (by simp)), hc.1]
    show queL f m (lstQ (a :: t)) (spc a) (L ++ [spc i]) = _
    rw [queL_law hl t a f (L ++ [spc i]) hc.2 (List.nodup_cons.1 hn).2 (fun x hx => hlt x (List.mem_cons_of_mem _ hx)) (by omega) (by simp only [List.length_append, List.length_singleton]; omega), List.append_assoc]
    rfl
theorem que_law {k : Core} {m : Ram} {o : Bool} {Q : List Nat} (hl : m.l.length = 2048) (h : QI k m o Q) (hn : Q.length ≤ 1024) : queR k m (pO o) = (Q.map spc, 0) := by
  obtain ⟨e1, e2⟩ := pO_one o
  unfold queR
  rw [e2, e1, h.f, h.b, Bool.not_true, cond_false]
  cases Q with
  | nil => rw [show (fstQ [] == NP) = true from rfl, cond_true]; simp
  | cons i t =>
    rw [show (fstQ (i :: t) == NP) = false from spc_np (h.lt i (by simp)), cond_false, show fstQ (i :: t) = spc i from rfl, queL_law hl t i queN [] h.c h.nd h.lt (by rw [queN_eq]; simp only [List.length_cons] at hn; omega) (by simp only [List.length_cons, List.length_nil] at hn ⊢; omega), List.nil_append]
end Go.Proofs

namespace Go.Proofs
open Go Go.Sx
set_option maxRecDepth 10000
/-- The links of a timer queue. -/
def TChL (L : Nat → Int) : List Nat → Prop
  | [] => True
  | i :: t => L i = fstQ t ∧ TChL L t
abbrev lnkOf (m : Ram) : Nat → Int := fun i => m.word (spc i - 16)
abbrev TCh (m : Ram) (Q : List Nat) : Prop := TChL (lnkOf m) Q
structure TQ (m : Ram) (t : Int) (T : Nat → Int) (Q : List Nat) : Prop where
  hd : t = fstQ Q
  ch : TCh m Q
  tm : ∀ i ∈ Q, m.word (spc i - 20) = T i
  lt : ∀ i ∈ Q, i < 50
  nd : Q.Nodup
theorem spc_w {i : Nat} (h : i < 50) {d : Int} (h0 : 0 ≤ d) (h1 : d ≤ 64) : IntKind.i32.wrap (spc i + -d) = spc i - d := by
  rw [IntKind.wrap_i32]; unfold spc; omega
/-- The last of some, or what is behind them. -/
def lstS (bef : Int) : List Nat → Int
  | [] => bef
  | i :: t => lstS (spc i) t
theorem fstQ_ne {i : Nat} {t : List Nat} (h : i < 50) : (fstQ (i :: t) == NP) = false := spc_np h
theorem TCh_tail {L : Nat → Int} : ∀ {A B : List Nat}, TChL L (A ++ B) → TChL L B
  | [], _, h => h
  | _ :: A, _, h => TCh_tail (A := A) h.2
theorem TCh_congr {L L' : Nat → Int} : ∀ {Q : List Nat}, (∀ i ∈ Q, L' i = L i) → TChL L Q → TChL L' Q
  | [], _, _ => trivial
  | i :: t, he, h => ⟨(he i (by simp)).trans h.1, TCh_congr (fun x hx => he x (List.mem_cons_of_mem _ hx)) h.2⟩
def upd (L : Nat → Int) (a : Nat) (v : Int) : Nat → Int := fun i => if i = a then v else L i
def lastN : Nat → List Nat → Nat
  | a, [] => a
  | _, i :: t => lastN i t
theorem lstS_last (bef : Int) : ∀ (a : Nat) (A : List Nat), lstS bef (a :: A) = spc (lastN a A)
  | _, [] => rfl
  | a, i :: t => lstS_last (spc a) i t
theorem lastN_mem : ∀ (a : Nat) (A : List Nat), lastN a A ∈ a :: A
  | a, [] => by simp [lastN]
  | a, i :: t => by
    have := lastN_mem i t
    simp only [lastN, List.mem_cons] at this ⊢
    exact .inr this
theorem ins_ch {L : Nat → Int} {j : Nat} {B : List Nat} : ∀ (a : Nat) (A : List Nat), TChL L (a :: A ++ B) → (a :: A ++ B).Nodup → j ∉ a :: A ++ B → TChL (upd (upd L j (fstQ B)) (lastN a A) (spc j)) (a :: A ++ j :: B)
  | a, [], h, hn, hj => by
    simp only [List.cons_append, List.nil_append, List.nodup_cons, List.mem_cons, not_or] at *
    refine ⟨by simp [upd, lastN, fstQ], ?_, ?_⟩
    · show upd (upd L j (fstQ B)) a (spc j) j = fstQ B
      simp [upd, hj.1]
    · refine TCh_congr (fun i hi => ?_) h.2
      have h1 : i ≠ a := fun e => hn.1 (e ▸ hi)
      have h2 : i ≠ j := fun e => hj.2 (e ▸ hi)
      simp [upd, lastN, h1, h2]
  | a, i :: t, h, hn, hj => by
    have ih := ins_ch (B := B) (j := j) i t h.2 (List.nodup_cons.1 hn).2 (fun hm => hj (List.mem_cons_of_mem _ hm))
    refine ⟨?_, ih⟩
    have hla : a ≠ lastN i t := fun e => (List.nodup_cons.1 hn).1 (by rw [e]; exact List.mem_append_left _ (lastN_mem i t))
    have haj : a ≠ j := fun e => hj (by rw [e]; simp)
    have : upd (upd L j (fstQ B)) (lastN i t) (spc j) a = L a := by simp [upd, hla, haj]
    show upd (upd L j (fstQ B)) (lastN i t) (spc j) a = _
    rw [this]
    exact h.1
theorem ins_ch0 {L : Nat → Int} {j : Nat} {B : List Nat} (h : TChL L B) (hj : j ∉ B) : TChL (upd L j (fstQ B)) (j :: B) := by
  refine ⟨by simp [upd], TCh_congr (fun i hi => ?_) h⟩
  have h2 : i ≠ j := fun e => hj (e ▸ hi)
  simp [upd, h2]
theorem sw {m : Ram} (hl : m.l.length = 2048) {i j : Nat} (hi : i < 50) (hj : j < 50) {d e v : Int} (hd : 0 ≤ d ∧ d ≤ 28 ∧ d % 4 = 0) (he : 0 ≤ e ∧ e ≤ 28 ∧ e % 4 = 0) (hv : I32 v) :
    (m.set (spc j - d) v).word (spc i - e) = if i = j ∧ e = d then v else m.word (spc i - e) := by
  rw [word_setB hl (spc_in hj hd.1 (by omega) hd.2.2) (spc_in hi he.1 (by omega) he.2.2) hv]
  by_cases h : i = j ∧ e = d
  · rw [if_pos h, if_pos (by rw [h.1, h.2])]
  · rw [if_neg h, if_neg]
    intro h'
    apply h
    unfold spc at h'
    omega
theorem insL_law {m : Ram} (hl : m.l.length = 2048) {T : Nat → Int} {at' : Int} (B : List Nat) (hB : ∀ b t, B = b :: t → aftB (T b) at' = true) : ∀ (A : List Nat) (f : Nat) (bef : Int), (A ++ B).length < f → TCh m (A ++ B) → (∀ i ∈ A ++ B, i < 50 ∧ m.word (spc i - 20) = T i) → (∀ i ∈ A, aftB (T i) at' = false) →
    insL f m at' bef (fstQ (A ++ B)) = some (lstS bef A, fstQ B)
  | [], f, bef, hf, hch, hq, _ => by
    obtain ⟨f, rfl⟩ : ∃ f', f = f' + 1 := ⟨f - 1, by omega⟩
    cases B with
    | nil => rw [insL]; rfl
    | cons b t =>
      have hb := hq b (by simp)
      simp only [List.nil_append, List.length_cons] at hf ⊢
      rw [insL, fstQ_ne hb.1, cond_false, show (f == 0) = false by simp; omega, cond_false]
      have hV : validB m (fstQ (b :: t)) = true := spc_valid hl hb.1
      rw [hV]
      show (bif false then none else _) = _
      rw [cond_false]
      have hw : m.word (IntKind.i32.wrap (fstQ (b :: t) + -20)) = T b := by
        show m.word (IntKind.i32.wrap (spc b + -20)) = T b
        rw [spc_w hb.1 (by decide) (by decide)]; exact hb.2
      rw [hw, hB b t rfl]; rfl
  | a :: A, f, bef, hf, hch, hq, hA => by
    obtain ⟨f, rfl⟩ : ∃ f', f = f' + 1 := ⟨f - 1, by omega⟩
    have ha := hq a (by simp)
    simp only [List.cons_append, List.length_cons] at hf ⊢
    rw [insL, fstQ_ne ha.1, cond_false, show (f == 0) = false by simp; omega, cond_false]
    have hV : validB m (fstQ (a :: (A ++ B))) = true := spc_valid hl ha.1
    rw [hV]
    show (bif false then none else _) = _
    rw [cond_false]
    have hw : m.word (IntKind.i32.wrap (fstQ (a :: (A ++ B)) + -20)) = T a := by
      show m.word (IntKind.i32.wrap (spc a + -20)) = T a
      rw [spc_w ha.1 (by decide) (by decide)]; exact ha.2
    rw [hw, hA a (by simp), cond_false]
    have hn : m.word (IntKind.i32.wrap (fstQ (a :: (A ++ B)) + -16)) = fstQ (A ++ B) := by
      show m.word (IntKind.i32.wrap (spc a + -16)) = _
      rw [spc_w ha.1 (by decide) (by decide)]; exact hch.1
    rw [hn]
    exact insL_law hl B hB A f (spc a) (by omega) hch.2 (fun i hi => hq i (by simp at hi ⊢; exact .inr hi)) (fun i hi => hA i (by simp [hi]))
theorem tm_setT (k : Core) (o : Bool) (w : Int) : (k.setT o w).tm o = w := by cases o <;> rfl
/-- A process is put into a timer queue. -/
theorem ins_law {k : Core} {m : Ram} {o : Bool} {T : Nat → Int} {A B : List Nat} {j : Nat} {at' p : Int} (hl : m.l.length = 2048) (h : TQ m (k.tm o) T (A ++ B)) (hj : j < 50) (hjn : j ∉ A ++ B) (hat : I32 at')
    (hA : ∀ i ∈ A, aftB (T i) at' = false) (hB : ∀ b t, B = b :: t → aftB (T b) at' = true) (hn : (A ++ B).length < 1025) (hp : (p == 1) = o) :
    ∃ k' m', insR k m (spc j) at' p = some (k', m') ∧ m'.l.length = 2048 ∧ TQ m' (k'.tm o) (upd T j at') (A ++ j :: B) ∧ k' = (if A = [] then k.setT o (spc j) else k) ∧
      ∀ i, i < 50 → ∀ d, (0 ≤ d ∧ d ≤ 28 ∧ d % 4 = 0) → d ≠ 16 → d ≠ 20 → m'.word (spc i - d) = m.word (spc i - d) := by
  subst hp
  have hNP : I32 (fstQ B) := by
    cases B with
    | nil => exact ⟨by decide, by decide⟩
    | cons b t => exact spc_I32 (h.lt b (by simp))
  have hL := insL_law hl (T := T) (at' := at') B hB A queN NP (by rw [queN_eq]; exact hn) h.ch (fun i hi => ⟨h.lt i hi, h.tm i hi⟩) hA
  have hR : insR k m (spc j) at' p = some (lnkK k (lstS NP A) (spc j) (p == 1), lnkM (insA m (spc j) at' (fstQ B)) (lstS NP A) (spc j)) := by
    unfold insR
    rw [show (!validB m (spc j)) = false by rw [spc_valid hl hj]; rfl, cond_false, h.hd, hL]; rfl
  have e20 := spc_w hj (d := 20) (by decide) (by decide)
  have e16 := spc_w hj (d := 16) (by decide) (by decide)
  obtain ⟨m1, hm1⟩ : ∃ m1, m.set (spc j - 20) at' = m1 := ⟨_, rfl⟩
  obtain ⟨m2, hm2⟩ : ∃ m2, m1.set (spc j - 16) (fstQ B) = m2 := ⟨_, rfl⟩
  have hl1 : m1.l.length = 2048 := by rw [← hm1, set_len]; exact hl
  have hl2 : m2.l.length = 2048 := by rw [← hm2, set_len]; exact hl1
  have hIA : insA m (spc j) at' (fstQ B) = m2 := by unfold insA; rw [e20, e16, hm1, hm2]
  rw [hIA] at hR
  have w2 : ∀ i, i < 50 → ∀ d, (0 ≤ d ∧ d ≤ 28 ∧ d % 4 = 0) → m2.word (spc i - d) = if i = j ∧ d = 16 then fstQ B else if i = j ∧ d = 20 then at' else m.word (spc i - d) := fun i hi d hd => by
    rw [← hm2, sw hl1 hi hj (by decide) hd hNP, ← hm1, sw hl hi hj (by decide) hd hat]
  cases A with
  | nil =>
    rw [show lstS NP ([] : List Nat) = NP from rfl] at hR
    refine ⟨_, _, hR, ?_, ?_, ?_, ?_⟩
    · exact hl2
    · refine ⟨?_, ?_, ?_, ?_, ?_⟩
      · show (k.setT (p == 1) (spc j)).tm (p == 1) = _
        rw [tm_setT]; rfl
      · show TChL (lnkOf m2) (j :: B)
        refine TCh_congr (fun i hi => ?_) (ins_ch0 (j := j) h.ch hjn)
        have hi50 : i < 50 := by rcases List.mem_cons.1 hi with rfl | hi; exact hj; exact h.lt i hi
        show m2.word (spc i - 16) = _
        rw [w2 i hi50 16 (by decide)]
        by_cases e : i = j <;> simp [upd, e]
      · intro i hi
        have hi50 : i < 50 := by rcases List.mem_cons.1 hi with rfl | hi; exact hj; exact h.lt i hi
        show m2.word (spc i - 20) = _
        rw [w2 i hi50 20 (by decide)]
        by_cases e : i = j
        · simp [upd, e]
        · simp only [upd, e, false_and, if_false]
          rcases List.mem_cons.1 hi with rfl | hi
          · exact absurd rfl e
          · exact h.tm i hi
      · intro i hi
        rcases List.mem_cons.1 hi with rfl | hi; exact hj; exact h.lt i hi
      · exact List.nodup_cons.2 ⟨hjn, h.nd⟩
    · rw [if_pos rfl]; rfl
    · intro i hi d hd h16 h20
      show m2.word _ = _
      rw [w2 i hi d hd, if_neg (fun e => h16 e.2), if_neg (fun e => h20 e.2)]
  | cons a A =>
    have hla : lastN a A < 50 := h.lt _ (List.mem_append_left _ (lastN_mem a A))
    have hlm := lastN_mem a A
    have hne : lastN a A ≠ j := fun e => hjn (e ▸ List.mem_append_left _ hlm)
    rw [lstS_last] at hR
    have ea := spc_w hla (d := 16) (by decide) (by decide)
    have hb : (spc (lastN a A) == NP) = false := spc_np hla
    rw [show lnkK k (spc (lastN a A)) (spc j) (p == 1) = k by unfold lnkK; rw [hb]; rfl, show lnkM m2 (spc (lastN a A)) (spc j) = m2.set (spc (lastN a A) - 16) (spc j) by unfold lnkM; rw [hb, ea]; rfl] at hR
    have w3 : ∀ i, i < 50 → ∀ d, (0 ≤ d ∧ d ≤ 28 ∧ d % 4 = 0) → (m2.set (spc (lastN a A) - 16) (spc j)).word (spc i - d) = if i = lastN a A ∧ d = 16 then spc j else if i = j ∧ d = 16 then fstQ B else if i = j ∧ d = 20 then at' else m.word (spc i - d) := fun i hi d hd => by
      rw [sw hl2 hi hla (by decide) hd (spc_I32 hj), w2 i hi d hd]
    have hmem : ∀ i, i ∈ a :: A ++ j :: B → i = j ∨ i ∈ a :: A ++ B := fun i hi => by
      rcases List.mem_append.1 hi with hi | hi
      · exact .inr (List.mem_append_left _ hi)
      · rcases List.mem_cons.1 hi with rfl | hi
        · exact .inl rfl
        · exact .inr (List.mem_append_right _ hi)
    have h50 : ∀ i, i ∈ a :: A ++ j :: B → i < 50 := fun i hi => by
      rcases hmem i hi with rfl | hi
      · exact hj
      · exact h.lt i hi
    refine ⟨_, _, hR, ?_, ?_, ?_, ?_⟩
    · rw [set_len]; exact hl2
    · refine ⟨h.hd, ?_, ?_, h50, ?_⟩
      · refine TCh_congr (fun i hi => ?_) (ins_ch (j := j) a A h.ch h.nd hjn)
        show (m2.set (spc (lastN a A) - 16) (spc j)).word (spc i - 16) = _
        rw [w3 i (h50 i hi) 16 (by decide)]
        by_cases e1 : i = lastN a A
        · simp [upd, e1]
        · by_cases e2 : i = j
          · simp [upd, e2]
          · simp [upd, e1, e2]
      · intro i hi
        show (m2.set (spc (lastN a A) - 16) (spc j)).word (spc i - 20) = _
        rw [w3 i (h50 i hi) 20 (by decide)]
        by_cases e : i = j
        · simp [upd, e]
        · rcases hmem i hi with h' | h'
          · exact absurd h' e
          · simp [upd, e]; exact h.tm i h'
      · have := h.nd
        rw [List.nodup_append] at this ⊢
        refine ⟨this.1, List.nodup_cons.2 ⟨fun hm => hjn (List.mem_append_right _ hm), this.2.1⟩, fun x hx y hy => ?_⟩
        rcases List.mem_cons.1 hy with rfl | hy
        · intro e; subst e; exact hjn (List.mem_append_left _ hx)
        · exact this.2.2 x hx y hy
    · rw [if_neg (by simp)]
    · intro i hi d hd h16 h20
      rw [w3 i hi d hd, if_neg (fun e => h16 e.2), if_neg (fun e => h16 e.2), if_neg (fun e => h20 e.2)]
end Go.Proofs

namespace Go.Proofs
open Go Go.Sx
set_option maxRecDepth 10000
theorem tquL_law {m : Ram} (hl : m.l.length = 2048) : ∀ (Q : List Nat) (f : Nat) (L : List Int), Q.length < f → TCh m Q → (∀ i ∈ Q, i < 50) → tquL f m (fstQ Q) L = some (L ++ Q.map spc)
  | [], f, L, hf, _, _ => by
    obtain ⟨f, rfl⟩ : ∃ f', f = f' + 1 := ⟨f - 1, by omega⟩
    rw [tquL]; simp [fstQ]
  | a :: t, f, L, hf, hch, hq => by
    obtain ⟨f, rfl⟩ : ∃ f', f = f' + 1 := ⟨f - 1, by omega⟩
    have ha := hq a (by simp)
    simp only [List.length_cons] at hf
    rw [tquL, fstQ_ne ha, cond_false, show (f == 0) = false by simp; omega, cond_false]
    have hV : validB m (fstQ (a :: t)) = true := spc_valid hl ha
    rw [hV]
    show (bif false then none else _) = _
    rw [cond_false]
    have hn : m.word (IntKind.i32.wrap (fstQ (a :: t) + -16)) = fstQ t := by
      show m.word (IntKind.i32.wrap (spc a + -16)) = _
      rw [spc_w ha (by decide) (by decide)]; exact hch.1
    rw [hn, tquL_law hl t f (L ++ [fstQ (a :: t)]) (by omega) hch.2 (fun i hi => hq i (List.mem_cons_of_mem _ hi))]
    simp [fstQ]
theorem tqe_law {k : Core} {m : Ram} {o : Bool} {T : Nat → Int} {Q : List Nat} {p : Int} (hl : m.l.length = 2048) (h : TQ m (k.tm o) T Q) (hn : Q.length < 1025) (hpb : priB p = true) (hp : (p == 1) = o) : tqeR k m p = (Q.map spc, 0) := by
  subst hp
  unfold tqeR
  rw [hpb, h.hd, tquL_law hl Q queN [] (by rw [queN_eq]; exact hn) h.ch h.lt]; rfl
theorem remL_in {m : Ram} (hl : m.l.length = 2048) {j : Nat} {B : List Nat} : ∀ (A : List Nat) (f : Nat) (bef : Int), (A ++ j :: B).length < f → TCh m (A ++ j :: B) → (∀ i ∈ A ++ j :: B, i < 50) → j ∉ A → remL f m (spc j) bef (fstQ (A ++ j :: B)) = some (some (lstS bef A))
  | [], f, bef, hf, hch, hq, _ => by
    obtain ⟨f, rfl⟩ : ∃ f', f = f' + 1 := ⟨f - 1, by omega⟩
    have hj := hq j (by simp)
    simp only [List.nil_append, List.length_cons] at hf ⊢
    rw [remL, fstQ_ne hj, cond_false, show (f == 0) = false by simp; omega, cond_false]
    have hV : validB m (fstQ (j :: B)) = true := spc_valid hl hj
    rw [hV]
    show (bif false then none else _) = _
    rw [cond_false, show (fstQ (j :: B) == spc j) = true by simp [fstQ], cond_true]; rfl
  | a :: A, f, bef, hf, hch, hq, hA => by
    obtain ⟨f, rfl⟩ : ∃ f', f = f' + 1 := ⟨f - 1, by omega⟩
    have ha := hq a (by simp)
    simp only [List.cons_append, List.length_cons] at hf ⊢
    rw [remL, fstQ_ne ha, cond_false, show (f == 0) = false by simp; omega, cond_false]
    have hV : validB m (fstQ (a :: (A ++ j :: B))) = true := spc_valid hl ha
    rw [hV]
    show (bif false then none else _) = _
    have hne : (fstQ (a :: (A ++ j :: B)) == spc j) = false := by
      have : a ≠ j := fun e => hA (by simp [e])
      simp only [fstQ, beq_eq_false_iff_ne, ne_eq]
      exact fun e => this (spc_inj e)
    rw [cond_false, hne, cond_false]
    have hn : m.word (IntKind.i32.wrap (fstQ (a :: (A ++ j :: B)) + -16)) = fstQ (A ++ j :: B) := by
      show m.word (IntKind.i32.wrap (spc a + -16)) = _
      rw [spc_w ha (by decide) (by decide)]; exact hch.1
    rw [hn]
    exact remL_in hl A f (spc a) (by omega) hch.2 (fun i hi => hq i (by simp at hi ⊢; exact .inr hi)) (fun hm => hA (List.mem_cons_of_mem _ hm))
theorem remL_out {m : Ram} (hl : m.l.length = 2048) {j : Nat} : ∀ (Q : List Nat) (f : Nat) (bef : Int), Q.length < f → TCh m Q → (∀ i ∈ Q, i < 50) → j ∉ Q → remL f m (spc j) bef (fstQ Q) = some none
  | [], f, bef, hf, hch, hq, _ => by
    obtain ⟨f, rfl⟩ : ∃ f', f = f' + 1 := ⟨f - 1, by omega⟩
    rw [remL]; rfl
  | a :: A, f, bef, hf, hch, hq, hA => by
    obtain ⟨f, rfl⟩ : ∃ f', f = f' + 1 := ⟨f - 1, by omega⟩
    have ha := hq a (by simp)
    simp only [List.length_cons] at hf
    rw [remL, fstQ_ne ha, cond_false, show (f == 0) = false by simp; omega, cond_false]
    have hV : validB m (fstQ (a :: A)) = true := spc_valid hl ha
    rw [hV]
    show (bif false then none else _) = _
    have hne : (fstQ (a :: A) == spc j) = false := by
      have : a ≠ j := fun e => hA (by simp [e])
      simp only [fstQ, beq_eq_false_iff_ne, ne_eq]
      exact fun e => this (spc_inj e)
    rw [cond_false, hne, cond_false]
    have hn : m.word (IntKind.i32.wrap (fstQ (a :: A) + -16)) = fstQ A := by
      show m.word (IntKind.i32.wrap (spc a + -16)) = _
      rw [spc_w ha (by decide) (by decide)]; exact hch.1
    rw [hn]
    exact remL_out hl A f (spc a) (by omega) hch.2 (fun i hi => hq i (List.mem_cons_of_mem _ hi)) (fun hm => hA (List.mem_cons_of_mem _ hm))
theorem rem_ch {L : Nat → Int} {j : Nat} {B : List Nat} : ∀ (a : Nat) (A : List Nat), TChL L (a :: A ++ j :: B) → (a :: A ++ j :: B).Nodup → TChL (upd L (lastN a A) (fstQ B)) (a :: A ++ B)
  | a, [], h, hn => by
    simp only [List.cons_append, List.nil_append, List.nodup_cons, List.mem_cons, not_or] at *
    refine ⟨by simp [upd, lastN], ?_⟩
    refine TCh_congr (fun i hi => ?_) h.2.2
    have h1 : i ≠ a := fun e => hn.1.2 (e ▸ hi)
    simp [upd, lastN, h1]
  | a, i :: t, h, hn => by
    have ih := rem_ch (B := B) (j := j) i t h.2 (List.nodup_cons.1 hn).2
    refine ⟨?_, ih⟩
    have hla : a ≠ lastN i t := fun e => (List.nodup_cons.1 hn).1 (by rw [e]; exact List.mem_append_left _ (lastN_mem i t))
    have : upd L (lastN i t) (fstQ B) a = L a := by simp [upd, hla]
    show upd L (lastN i t) (fstQ B) a = _
    rw [this]
    exact h.1
/-- A process is taken out. -/
theorem rem_law {k : Core} {m : Ram} {o : Bool} {T : Nat → Int} {A B : List Nat} {j : Nat} {p : Int} (hl : m.l.length = 2048) (h : TQ m (k.tm o) T (A ++ j :: B)) (hn : (A ++ j :: B).length < 1025) (hp : (p == 1) = o) :
    ∃ k' m', remR k m (spc j) p = some (k', true, m') ∧ m'.l.length = 2048 ∧ TQ m' (k'.tm o) T (A ++ B) ∧ k' = (if A = [] then k.setT o (fstQ B) else k) ∧
      ∀ i, i < 50 → ∀ d, (0 ≤ d ∧ d ≤ 28 ∧ d % 4 = 0) → d ≠ 16 → m'.word (spc i - d) = m.word (spc i - d) := by
  subst hp
  have hj : j < 50 := h.lt j (by simp)
  have hNP : I32 (fstQ B) := by
    cases B with
    | nil => exact ⟨by decide, by decide⟩
    | cons b t => exact spc_I32 (h.lt b (by simp))
  have hjA : j ∉ A := fun hm => by
    have := h.nd
    rw [List.nodup_append] at this
    exact this.2.2 j hm j (by simp) rfl
  have hL := remL_in hl A queN NP (by rw [queN_eq]; exact hn) h.ch h.lt hjA
  have hw : m.word (IntKind.i32.wrap (spc j + -16)) = fstQ B := by
    rw [spc_w hj (by decide) (by decide)]
    exact (TCh_tail (A := A) h.ch).1
  have hR : remR k m (spc j) p = some (lnkK k (lstS NP A) (fstQ B) (p == 1), true, lnkM m (lstS NP A) (fstQ B)) := by
    unfold remR
    rw [h.hd, hL, remE, hw]
  have hnd : (A ++ B).Nodup := by
    have := h.nd
    rw [List.nodup_append] at this ⊢
    exact ⟨this.1, (List.nodup_cons.1 this.2.1).2, fun x hx y hy => this.2.2 x hx y (List.mem_cons_of_mem _ hy)⟩
  have hmem : ∀ i, i ∈ A ++ B → i ∈ A ++ j :: B := fun i hi => by
    rcases List.mem_append.1 hi with hi | hi
    · exact List.mem_append_left _ hi
    · exact List.mem_append_right _ (List.mem_cons_of_mem _ hi)
  cases A with
  | nil =>
    rw [show lstS NP ([] : List Nat) = NP from rfl] at hR
    refine ⟨_, _, hR, hl, ⟨?_, h.ch.2, fun i hi => h.tm i (hmem i hi), fun i hi => h.lt i (hmem i hi), hnd⟩, by rw [if_pos rfl]; rfl, fun i hi d hd h16 => rfl⟩
    show (k.setT (p == 1) (fstQ B)).tm (p == 1) = _
    rw [tm_setT]; rfl
  | cons a A =>
    have hlm := lastN_mem a A
    have hla : lastN a A < 50 := h.lt _ (List.mem_append_left _ hlm)
    rw [lstS_last] at hR
    have ea := spc_w hla (d := 16) (by decide) (by decide)
    have hb : (spc (lastN a A) == NP) = false := spc_np hla
    rw [show lnkK k (spc (lastN a A)) (fstQ B) (p == 1) = k by unfold lnkK; rw [hb]; rfl, show lnkM m (spc (lastN a A)) (fstQ B) = m.set (spc (lastN a A) - 16) (fstQ B) by unfold lnkM; rw [hb, ea]; rfl] at hR
    have w3 : ∀ i, i < 50 → ∀ d, (0 ≤ d ∧ d ≤ 28 ∧ d % 4 = 0) → (m.set (spc (lastN a A) - 16) (fstQ B)).word (spc i - d) = if i = lastN a A ∧ d = 16 then fstQ B else m.word (spc i - d) := fun i hi d hd => by
      rw [sw hl hi hla (by decide) hd hNP]
    refine ⟨_, _, hR, by rw [set_len]; exact hl, ⟨h.hd, ?_, ?_, fun i hi => h.lt i (hmem i hi), hnd⟩, by rw [if_neg (by simp)], ?_⟩
    · refine TCh_congr (fun i hi => ?_) (rem_ch (j := j) a A h.ch h.nd)
      show (m.set (spc (lastN a A) - 16) (fstQ B)).word (spc i - 16) = _
      rw [w3 i (h.lt i (hmem i hi)) 16 (by decide)]
      by_cases e1 : i = lastN a A <;> simp [upd, e1]
    · intro i hi
      show (m.set (spc (lastN a A) - 16) (fstQ B)).word (spc i - 20) = _
      rw [w3 i (h.lt i (hmem i hi)) 20 (by decide), if_neg (fun e => absurd e.2 (by decide))]
      exact h.tm i (hmem i hi)
    · intro i hi d hd h16
      rw [w3 i hi d hd, if_neg (fun e => h16 e.2)]
theorem rem_none {k : Core} {m : Ram} {o : Bool} {T : Nat → Int} {Q : List Nat} {j : Nat} {p : Int} (hl : m.l.length = 2048) (h : TQ m (k.tm o) T Q) (hj : j ∉ Q) (hn : Q.length < 1025) (hp : (p == 1) = o) : remR k m (spc j) p = some (k, false, m) := by
  subst hp
  unfold remR
  rw [h.hd, remL_out hl Q queN NP (by rw [queN_eq]; exact hn) h.ch h.lt hj]; rfl
end Go.Proofs

namespace Go.Proofs
open Go Go.Sx
set_option maxRecDepth 10000
theorem TQ.keep {m m' : Ram} {t : Int} {T : Nat → Int} {Q : List Nat} (h : TQ m t T Q) (h16 : ∀ i ∈ Q, m'.word (spc i - 16) = m.word (spc i - 16)) (h20 : ∀ i ∈ Q, m'.word (spc i - 20) = m.word (spc i - 20)) : TQ m' t T Q :=
  ⟨h.hd, TCh_congr h16 h.ch, fun i hi => (h20 i hi).trans (h.tm i hi), h.lt, h.nd⟩
theorem TQ.times {m : Ram} {t : Int} {T T' : Nat → Int} {Q : List Nat} (h : TQ m t T Q) (e : ∀ i ∈ Q, T' i = T i) : TQ m t T' Q :=
  ⟨h.hd, h.ch, fun i hi => (h.tm i hi).trans (e i hi).symm, h.lt, h.nd⟩
theorem TQ.tail {m : Ram} {t : Int} {T : Nat → Int} {a : Nat} {Q : List Nat} (h : TQ m t T (a :: Q)) : TQ m (fstQ Q) T Q :=
  ⟨rfl, h.ch.2, fun i hi => h.tm i (List.mem_cons_of_mem _ hi), fun i hi => h.lt i (List.mem_cons_of_mem _ hi), (List.nodup_cons.1 h.nd).2⟩
theorem tw_law {k : Core} {m : Ram} {i : Nat} (hl : m.l.length = 2048) (hb : k.busy = true) (hw : k.wptr = spc i) (hi : i < 50) : waitE k m = 0 ∧ waitK k m = k.nobody ∧ waitM k m = m.set (spc i - 4) k.iptr := by
  have hE : waitE k m = 0 := by unfold waitE; rw [hb, hw, spc_valid hl hi]; rfl
  refine ⟨hE, ?_, ?_⟩
  · unfold waitK; rw [hE]; rfl
  · unfold waitM; rw [hE, hw, show (-4 : Int) = -(4 : Int) from rfl, spc_w hi (by decide) (by decide)]; rfl
/-- The process that runs waits for a time. -/
theorem sle_law {k : Core} {m : Ram} {T : Nat → Int} {A B : List Nat} {j : Nat} {at' : Int} (hl : m.l.length = 2048) (h : TQ m k.t0 T (A ++ B)) (hb : k.busy = true) (hw : k.wptr = spc j) (hp : k.pri = 0) (hj : j < 50) (hjn : j ∉ A ++ B) (hat : I32 at') (hI : I32 k.iptr)
    (hA : ∀ i ∈ A, aftB (T i) at' = false) (hB : ∀ b t, B = b :: t → aftB (T b) at' = true) (hn : (A ++ B).length < 1025) :
    ∃ k' m', sleR k m true at' = some (k'.nobody, m') ∧ m'.l.length = 2048 ∧ TQ m' k'.t0 (upd T j at') (A ++ j :: B) ∧ k' = (if A = [] then k.setT false (spc j) else k) ∧ m'.word (spc j - 12) = -2147483646 ∧
      (∀ i, i < 50 → i ≠ j → ∀ d, (0 ≤ d ∧ d ≤ 28 ∧ d % 4 = 0) → d ≠ 16 → d ≠ 20 → m'.word (spc i - d) = m.word (spc i - d)) ∧
      (∀ d, (0 ≤ d ∧ d ≤ 28 ∧ d % 4 = 0) → d ≠ 4 → d ≠ 12 → d ≠ 16 → d ≠ 20 → m'.word (spc j - d) = m.word (spc j - d)) := by
  have hW : I32 (-2147483646) := ⟨by decide, by decide⟩
  obtain ⟨m0, hm0⟩ : ∃ m0, m.set (spc j - 12) (-2147483646) = m0 := ⟨_, rfl⟩
  have hl0 : m0.l.length = 2048 := by rw [← hm0, set_len]; exact hl
  have w0 : ∀ i, i < 50 → ∀ d, (0 ≤ d ∧ d ≤ 28 ∧ d % 4 = 0) → m0.word (spc i - d) = if i = j ∧ d = 12 then -2147483646 else m.word (spc i - d) := fun i hi d hd => by
    rw [← hm0, sw hl hi hj (by decide) hd hW]
  have h0 : TQ m0 (k.tm false) T (A ++ B) := h.keep (fun i hi => by rw [w0 i (h.lt i hi) 16 (by decide), if_neg (by simp)]) (fun i hi => by rw [w0 i (h.lt i hi) 20 (by decide), if_neg (by simp)])
  obtain ⟨k', m', hIns, hl', hQ', hk', hk2⟩ := ins_law (k := k) (p := 0) hl0 h0 hj hjn hat hA hB hn rfl
  have hb' : k'.busy = true := by rw [hk']; split <;> exact hb
  have hw' : k'.wptr = spc j := by rw [hk']; split <;> exact hw
  have hi' : k'.iptr = k.iptr := by rw [hk']; split <;> rfl
  obtain ⟨_, e2, e3⟩ := tw_law hl' hb' hw' hj
  have w1 : ∀ i, i < 50 → ∀ d, (0 ≤ d ∧ d ≤ 28 ∧ d % 4 = 0) → (m'.set (spc j - 4) k.iptr).word (spc i - d) = if i = j ∧ d = 4 then k.iptr else m'.word (spc i - d) := fun i hi d hd => by
    rw [sw hl' hi hj (by decide) hd hI]
  refine ⟨k', m'.set (spc j - 4) k.iptr, ?_, by rw [set_len]; exact hl', ?_, hk', ?_, ?_, ?_⟩
  · unfold sleR
    rw [cond_true, hw, hp, show (-12 : Int) = -(12 : Int) from rfl, spc_w hj (by decide) (by decide), hm0, hIns, sleW, e2, e3, hi']
  · exact hQ'.keep (fun i hi => by rw [w1 i (hQ'.lt i hi) 16 (by decide), if_neg (by simp)]) (fun i hi => by rw [w1 i (hQ'.lt i hi) 20 (by decide), if_neg (by simp)])
  · rw [w1 j hj 12 (by decide), if_neg (by simp), hk2 j hj 12 (by decide) (by decide) (by decide), w0 j hj 12 (by decide), if_pos ⟨rfl, rfl⟩]
  · intro i hi hne d hd h16 h20
    rw [w1 i hi d hd, if_neg (fun e => hne e.1), hk2 i hi d hd h16 h20, w0 i hi d hd, if_neg (fun e => hne e.1)]
  · intro d hd h4 h12 h16 h20
    rw [w1 j hj d hd, if_neg (fun e => h4 e.2), hk2 j hj d hd h16 h20, w0 j hj d hd, if_neg (fun e => h12 e.2)]
theorem appM_keep {m : Ram} {k : Core} {o : Bool} {R : List Nat} {a : Nat} (hl : m.l.length = 2048) (h : QI k m o R) (ha : a < 50) {i : Nat} (hi : i < 50) {d : Int} (hd : 0 ≤ d ∧ d ≤ 28 ∧ d % 4 = 0) (h8 : d ≠ 8) : (appM m R a).word (spc i - d) = m.word (spc i - d) := by
  cases R with
  | nil => rfl
  | cons b t =>
    obtain ⟨j, hj, hq⟩ := lstQ_mem (Q := b :: t) (by simp)
    show (m.set (lstQ (b :: t) - 8) (spc a)).word _ = _
    rw [hq, sw hl hi (h.lt j hj) (by decide) hd (spc_I32 ha), if_neg (fun e => h8 e.2)]
theorem appK_t (k : Core) (R : List Nat) (a : Nat) : appK k false R a = { k with f0 := (appK k false R a).f0, b0 := (appK k false R a).b0 } := by
  cases R <;> rfl
/-- A process whose time has come is appended to its ready queue. -/
theorem wak_law {k : Core} {m : Ram} {T : Nat → Int} {a : Nat} {t R : List Nat} (hl : m.l.length = 2048) (h : TQ m k.t0 T (a :: t)) (hR : QI k m false R) (hna : a ∉ R) (hs : m.word (spc a - 12) = -2147483646) (hck : I32 k.k0) :
    ∃ k' m', wakR k m 0 = some (k', m') ∧ m'.l.length = 2048 ∧ TQ m' k'.t0 T t ∧ QI k' m' false (R ++ [a]) ∧ k' = { k with t0 := k'.t0, f0 := k'.f0, b0 := k'.b0 } ∧
      (∀ i, i < 50 → i ≠ a → ∀ d, (0 ≤ d ∧ d ≤ 28 ∧ d % 4 = 0) → d ≠ 8 → m'.word (spc i - d) = m.word (spc i - d)) ∧
      m'.word (spc a - 12) = -2147483645 ∧ m'.word (spc a - 16) = tSet ∧ m'.word (spc a - 20) = k.k0 ∧ m'.word (spc a) = m.word (spc a) := by
  have ha : a < 50 := h.lt a (by simp)
  have hat : a ∉ t := (List.nodup_cons.1 h.nd).1
  have hhd : k.tm ((0 : Int) == 1) = spc a := h.hd
  have e16 := spc_w ha (d := 16) (by decide) (by decide)
  have e20 := spc_w ha (d := 20) (by decide) (by decide)
  have e12 := spc_w ha (d := 12) (by decide) (by decide)
  obtain ⟨m1, hm1⟩ : ∃ m1, m.set (spc a - 16) tSet = m1 := ⟨_, rfl⟩
  obtain ⟨m2, hm2⟩ : ∃ m2, m1.set (spc a - 20) k.k0 = m2 := ⟨_, rfl⟩
  obtain ⟨m3, hm3⟩ : ∃ m3, m2.set (spc a - 12) (-2147483645) = m3 := ⟨_, rfl⟩
  have hl1 : m1.l.length = 2048 := by rw [← hm1, set_len]; exact hl
  have hl2 : m2.l.length = 2048 := by rw [← hm2, set_len]; exact hl1
  have hl3 : m3.l.length = 2048 := by rw [← hm3, set_len]; exact hl2
  have w2 : ∀ i, i < 50 → ∀ d, (0 ≤ d ∧ d ≤ 28 ∧ d % 4 = 0) → m2.word (spc i - d) = if i = a ∧ d = 20 then k.k0 else if i = a ∧ d = 16 then tSet else m.word (spc i - d) := fun i hi d hd => by
    rw [← hm2, sw hl1 hi ha (by decide) hd hck, ← hm1, sw hl hi ha (by decide) hd ⟨by decide, by decide⟩]
  have w3 : ∀ i, i < 50 → ∀ d, (0 ≤ d ∧ d ≤ 28 ∧ d % 4 = 0) → m3.word (spc i - d) = if i = a ∧ d = 12 then -2147483645 else m2.word (spc i - d) := fun i hi d hd => by
    rw [← hm3, sw hl2 hi ha (by decide) hd ⟨by decide, by decide⟩]
  have hst : m2.word (spc a - 12) = -2147483646 := by rw [w2 a ha 12 (by decide), if_neg (by simp), if_neg (by simp), hs]
  have hlnk : m.word (spc a - 16) = fstQ t := h.ch.1
  have hR3 : QI (k.setT false (fstQ t)) m3 false R := hR.keep rfl rfl (fun i hi => by
    have hi50 := hR.lt i hi
    rw [w3 i hi50 8 (by decide), if_neg (by simp), w2 i hi50 8 (by decide), if_neg (by simp), if_neg (by simp)])
  obtain ⟨hap, hQ', hlA⟩ := app_law hl3 hR3 ha hna
  have hwk : wakR k m 0 = some (appK (k.setT false (fstQ t)) false R a, appM m3 R a) := by
    unfold wakR
    rw [hhd, show (-12 : Int) = -(12 : Int) from rfl, show (-16 : Int) = -(16 : Int) from rfl, show (-20 : Int) = -(20 : Int) from rfl, e12, e16, e20, show k.ck ((0 : Int) == 1) = k.k0 from rfl, hm1, hm2, hst, hm3, hlnk]
    have e0 : IntKind.i32.wrap (spc a + IntKind.i32.wrap 0) = spc a + bif false then 1 else 0 := by
      rw [IntKind.wrap_i32, IntKind.wrap_i32]; unfold spc
      show _ = -2147483488 + 32 * (a : Int) + 0
      omega
    rw [e0]
    show wakE (appR (k.setT false (fstQ t)) m3 (spc a + bif false then 1 else 0)) = _
    rw [hap]; rfl
  have hk' := appK_t (k.setT false (fstQ t)) R a
  have hkeep : ∀ i, i < 50 → ∀ d, (0 ≤ d ∧ d ≤ 28 ∧ d % 4 = 0) → d ≠ 8 → (appM m3 R a).word (spc i - d) = m3.word (spc i - d) := fun i hi d hd h8 => appM_keep hl3 hR3 ha hi hd h8
  have ht0 : (appK (k.setT false (fstQ t)) false R a).t0 = fstQ t := by rw [hk']; rfl
  refine ⟨_, _, hwk, hlA, ?_, hQ', ?_, ?_, ?_, ?_, ?_, ?_⟩
  · rw [ht0]
    refine h.tail.keep (fun i hi => ?_) (fun i hi => ?_)
    · have hi50 := h.lt i (List.mem_cons_of_mem _ hi)
      have hne : i ≠ a := fun e => hat (e ▸ hi)
      rw [hkeep i hi50 16 (by decide) (by decide), w3 i hi50 16 (by decide), if_neg (fun e => hne e.1), w2 i hi50 16 (by decide), if_neg (fun e => hne e.1), if_neg (fun e => hne e.1)]
    · have hi50 := h.lt i (List.mem_cons_of_mem _ hi)
      have hne : i ≠ a := fun e => hat (e ▸ hi)
      rw [hkeep i hi50 20 (by decide) (by decide), w3 i hi50 20 (by decide), if_neg (fun e => hne e.1), w2 i hi50 20 (by decide), if_neg (fun e => hne e.1), if_neg (fun e => hne e.1)]
  · cases R <;> rfl
  · intro i hi hne d hd h8
    rw [hkeep i hi d hd h8, w3 i hi d hd, if_neg (fun e => hne e.1), w2 i hi d hd, if_neg (fun e => hne e.1), if_neg (fun e => hne e.1)]
  · rw [hkeep a ha 12 (by decide) (by decide), w3 a ha 12 (by decide), if_pos ⟨rfl, rfl⟩]
  · rw [hkeep a ha 16 (by decide) (by decide), w3 a ha 16 (by decide), if_neg (by simp), w2 a ha 16 (by decide), if_neg (by simp), if_pos ⟨rfl, rfl⟩]
  · rw [hkeep a ha 20 (by decide) (by decide), w3 a ha 20 (by decide), if_neg (by simp), w2 a ha 20 (by decide), if_pos ⟨rfl, rfl⟩]
  · have := hkeep a ha 0 (by decide) (by decide)
    rw [w3 a ha 0 (by decide), if_neg (by simp), w2 a ha 0 (by decide), if_neg (by simp), if_neg (by simp)] at this
    simpa using this
/-- All that are due are woken, in their order. -/
theorem tikq_law {T : Nat → Int} {c : Int} (hc : I32 c) : ∀ (S : List Nat) (f : Nat) (k : Core) (m : Ram) (R : List Nat), S.length < f → m.l.length = 2048 → TQ m k.t0 T S → QI k m false R → (∀ x ∈ S, x ∉ R) → (∀ i ∈ S, m.word (spc i - 12) = -2147483646) → k.k0 = c →
    ∃ k' m', tikQ f k m 0 = some (k', m') ∧ m'.l.length = 2048 ∧ TQ m' k'.t0 T (S.dropWhile fun i => !aftB (T i) c) ∧ QI k' m' false (R ++ S.takeWhile fun i => !aftB (T i) c) ∧ (∀ i ∈ S.dropWhile (fun i => !aftB (T i) c), m'.word (spc i - 12) = -2147483646) ∧
      k' = { k with t0 := k'.t0, f0 := k'.f0, b0 := k'.b0 }
  | [], f, k, m, R, hf, hl, h, hR, _, _, _ => by
    obtain ⟨f, rfl⟩ : ∃ f', f = f' + 1 := ⟨f - 1, by omega⟩
    refine ⟨k, m, ?_, hl, h, by simpa using hR, fun i hi => absurd hi (by simp), rfl⟩
    rw [tikQ, show k.tm ((0 : Int) == 1) = NP from h.hd]; rfl
  | a :: t, f, k, m, R, hf, hl, h, hR, hd, hs, hk => by
    obtain ⟨f, rfl⟩ : ∃ f', f = f' + 1 := ⟨f - 1, by omega⟩
    have ha : a < 50 := h.lt a (by simp)
    have hhd : k.tm ((0 : Int) == 1) = spc a := h.hd
    have h20 : m.word (spc a - 20) = T a := h.tm a (by simp)
    simp only [List.length_cons] at hf
    have hstep : tikQ (f + 1) k m 0 = bif aftB (T a) c then some (k, m) else bif f == 0 then none else (wakR k m 0).bind fun r => tikQ f r.1 r.2 0 := by
      rw [tikQ, hhd, show (spc a == NP) = false from spc_np ha, spc_valid hl ha, show (-20 : Int) = -(20 : Int) from rfl, spc_w ha (by decide) (by decide), h20, show k.ck ((0 : Int) == 1) = c from hk]; rfl
    rcases haf : aftB (T a) c with _ | _
    · obtain ⟨k1, m1, hw, hl1, h1, hR1, hk1, hw1, _⟩ := wak_law hl h hR (hd a (by simp)) (hs a (by simp)) (hk ▸ hc)
      have hat : a ∉ t := (List.nodup_cons.1 h.nd).1
      obtain ⟨k', m', e, hl', h', hR', hs', hk'⟩ := tikq_law hc t f k1 m1 (R ++ [a]) (by omega) hl1 h1 hR1 (fun x hx hm => by
          rcases List.mem_append.1 hm with hm | hm
          · exact hd x (List.mem_cons_of_mem _ hx) hm
          · rw [List.mem_singleton.1 hm] at hx; exact hat hx)
        (fun i hi => by rw [hw1 i (h.lt i (List.mem_cons_of_mem _ hi)) (fun e => hat (e ▸ hi)) 12 (by decide) (by decide)]; exact hs i (List.mem_cons_of_mem _ hi)) (by rw [hk1]; exact hk)
      refine ⟨k', m', ?_, hl', ?_, ?_, ?_, ?_⟩
      · rw [hstep, haf, cond_false, show (f == 0) = false by simp; omega, cond_false, hw]; exact e
      · rw [List.dropWhile_cons_of_pos (by rw [haf]; rfl)]; exact h'
      · rw [List.takeWhile_cons_of_pos (by rw [haf]; rfl)]
        have : R ++ [a] ++ List.takeWhile (fun i => !aftB (T i) c) t = R ++ a :: List.takeWhile (fun i => !aftB (T i) c) t := by simp
        rw [← this]; exact hR'
      · rw [List.dropWhile_cons_of_pos (by rw [haf]; rfl)]; exact hs'
      · rw [hk', hk1]
    · refine ⟨k, m, ?_, hl, ?_, ?_, ?_, rfl⟩
      · rw [hstep, haf, cond_true]
      · rw [List.dropWhile_cons_of_neg (by rw [haf]; decide)]; exact h
      · rw [List.takeWhile_cons_of_neg (by rw [haf]; decide)]; simpa using hR
      · rw [List.dropWhile_cons_of_neg (by rw [haf]; decide)]; exact hs
theorem tikq_idle {f : Nat} {k : Core} {m : Ram} (hf : 0 < f) (h : k.t1 = NP) : tikQ f k m 1 = some (k, m) := by
  obtain ⟨f, rfl⟩ : ∃ f', f = f' + 1 := ⟨f - 1, by omega⟩
  rw [tikQ, show k.tm ((1 : Int) == 1) = NP from h]; rfl
theorem fst_I32 : ∀ {Q : List Nat}, (∀ i ∈ Q, i < 50) → I32 (fstQ Q)
  | [], _ => ⟨by decide, by decide⟩
  | a :: _, h => spc_I32 (h a (by simp))
theorem lst_I32 {Q : List Nat} (h : ∀ i ∈ Q, i < 50) : I32 (lstQ Q) := by
  cases Q with
  | nil => exact ⟨by decide, by decide⟩
  | cons a t =>
    obtain ⟨j, hj, e⟩ := lstQ_mem (Q := a :: t) (by simp)
    rw [e]; exact spc_I32 (h j hj)
theorem adv_k0 (k : Core) : k.adv.k0 = IntKind.i32.wrap (k.k0 + 1) ∧ k.adv.t0 = k.t0 ∧ k.adv.t1 = k.t1 ∧ k.adv.f0 = k.f0 ∧ k.adv.b0 = k.b0 ∧ k.adv.halted = k.halted ∧ k.adv.busy = k.busy := by
  unfold Core.adv
  cases (bif decide (IntKind.i32.wrap (k.ticks + 1) ≤ 0) then true else decide (IntKind.i32.wrap (k.ticks + 1) > 63)) <;> exact ⟨rfl, rfl, rfl, rfl, rfl, rfl, rfl⟩
/-- A step of time. -/
theorem tick_law {k : Core} {m : Ram} {T : Nat → Int} {S R : List Nat} {c : Int} (hl : m.l.length = 2048) (h : TQ m k.t0 T S) (hn : S.length < 1025) (hR : QI k m false R) (hd : ∀ x ∈ S, x ∉ R) (hs : ∀ i ∈ S, m.word (spc i - 12) = -2147483646)
    (ht1 : k.t1 = NP) (hh : k.halted = false) (hc : IntKind.i32.wrap (k.k0 + 1) = c) (hok : k.ok) :
    ∃ k' m', ttkR k m = (k', 0, m') ∧ m'.l.length = 2048 ∧ TQ m' k'.t0 T (S.dropWhile fun i => !aftB (T i) c) ∧ QI k' m' false (R ++ S.takeWhile fun i => !aftB (T i) c) ∧ (∀ i ∈ S.dropWhile (fun i => !aftB (T i) c), m'.word (spc i - 12) = -2147483646) ∧
      k' = { k.adv with t0 := k'.t0, f0 := k'.f0, b0 := k'.b0 } ∧ k'.t1 = NP ∧ k'.halted = false ∧ k'.k0 = c ∧ k'.ok := by
  obtain ⟨a1, a2, a3, a4, a5, a6, a7⟩ := adv_k0 k
  have hcI : I32 c := by rw [← hc]; exact I32_wrap _
  obtain ⟨k', m', e, hl', h', hR', hs', hk'⟩ := tikq_law hcI S queN k.adv m R (by rw [queN_eq]; exact hn) hl (by rw [a2]; exact h) (hR.keep a4 a5 (fun _ _ => rfl)) hd hs (a1.trans hc)
  have h1 : k'.t1 = NP := by rw [hk']; exact a3.trans ht1
  have h2 : k'.halted = false := by rw [hk']; exact a6.trans hh
  have h3 : k'.k0 = c := by rw [hk']; exact a1.trans hc
  have hok1 := adv_ok hok
  refine ⟨k', m', ?_, hl', h', hR', hs', hk', h1, h2, h3, ?_⟩
  · unfold ttkR
    rw [hh, cond_false]
    have e' : tikF 0 k.adv m = (tikQ queN k.adv m 0).bind fun r => tikQ queN r.1 r.2 1 := rfl
    rw [e', e]
    show tryR m (tikQ queN k' m' 1) = _
    rw [tikq_idle (by rw [queN_eq]; decide) h1]; rfl
  · have ft : I32 k'.t0 := by rw [h'.hd]; exact fst_I32 h'.lt
    have ff : I32 k'.f0 := by rw [show k'.f0 = _ from hR'.f]; exact fst_I32 hR'.lt
    have fb : I32 k'.b0 := by rw [show k'.b0 = _ from hR'.b]; exact lst_I32 hR'.lt
    rw [hk']
    exact { hok1 with t0 := ft, f0 := ff, b0 := fb }
end Go.Proofs

namespace Go.Proofs
open Go Go.Sx
set_option maxRecDepth 10000
noncomputable abbrev ctSz0 : CT := [(f_mem_Mem_Size, in_mem_Mem_Size [(f_mem_Mem_none, in_mem_Mem_none [])])]
theorem ctSz0_ok : CTok Try.prog ctSz0 := ⟨in_mem_Mem_Size_ok (ct := [(f_mem_Mem_none, in_mem_Mem_none [])]) ⟨in_mem_Mem_none_ok (ct := []) trivial, trivial⟩, trivial⟩
noncomputable abbrev ctNo : CT := [(f_timer_check, in_timer_check ctSz0), (f_mem_Mem_Size, in_mem_Mem_Size [(f_mem_Mem_none, in_mem_Mem_none [])])]
theorem ctNo_ok : CTok Try.prog ctNo := ⟨in_timer_check_ok ctSz0_ok, in_mem_Mem_Size_ok (ct := [(f_mem_Mem_none, in_mem_Mem_none [])]) ⟨in_mem_Mem_none_ok (ct := []) trivial, trivial⟩, trivial⟩
theorem TQueue_0 (k : Core) (d : Int) : Con Try.prog f_timer_Queue [.agg k.sv, .s (.loc 0 0), .s (.int .i64 d)] [.blk 33 [.raw (.slice none 0 0)]] (.ret (.tup [.s (.raw (.slice none 0 0)), .s (.int .i64 1)]) [.blk 33 [.raw (.slice none 0 0)]]) := by
  intro K hK
  refine enter fn_timer_Queue rfl nt_timer_Queue rfl rfl (fun φ w0 β0 F => ?_)
  refine c_run tt_ok ctNo_ok k_timer_Queue [] 60 (by kernel_rfl) ?_
  repeat' (first | (refine And.intro ?_ ?_) | (intro h; exact absurd h (by decide)) | (refine fun _ => ?_))
  all_goals exact fin_k tt_ok (rs := rs_timer_Queue) rfl rfl hK [0] rfl rfl rfl rfl rfl rfl
theorem TQueue_n (k : Core) (d : Int) : Con Try.prog f_timer_Queue [.agg k.sv, .s (.raw (.pointer none)), .s (.int .i64 d)] [] (.ret (.tup [.s (.raw (.slice none 0 0)), .s (.int .i64 1)]) []) := by
  intro K hK
  refine enter fn_timer_Queue rfl nt_timer_Queue rfl rfl (fun φ w0 β0 F => ?_)
  refine c_run tt_ok ctNo_ok k_timer_Queue [] 60 (by kernel_rfl) ?_
  repeat' (first | (refine And.intro ?_ ?_) | (intro h; exact absurd h (by decide)) | (refine fun _ => ?_))
  all_goals exact fin_k tt_ok (rs := rs_timer_Queue) rfl rfl hK [] rfl rfl rfl rfl rfl rfl
theorem TInsert_0 (k : Core) (w v d : Int) : Con Try.prog f_timer_Insert [.agg k.sv, .s (.loc 0 0), .s (.int .i32 w), .s (.int .i32 v), .s (.int .i64 d)] [.blk 33 [.raw (.slice none 0 0)]] (.ret (.tup [.agg Core.zero.sv, .s (.int .i64 1)]) [.blk 33 [.raw (.slice none 0 0)]]) := by
  intro K hK
  refine enter fn_timer_Insert rfl nt_timer_Insert rfl rfl (fun φ w0 β0 F => ?_)
  refine c_run tt_ok ctNo_ok k_timer_Insert [] 60 (by kernel_rfl) ?_
  repeat' (first | (refine And.intro ?_ ?_) | (intro h; exact absurd h (by decide)) | (refine fun _ => ?_))
  all_goals exact fin_k tt_ok (rs := rs_timer_Insert) rfl rfl hK [0] rfl rfl rfl rfl rfl rfl
theorem TInsert_n (k : Core) (w v d : Int) : Con Try.prog f_timer_Insert [.agg k.sv, .s (.raw (.pointer none)), .s (.int .i32 w), .s (.int .i32 v), .s (.int .i64 d)] [] (.ret (.tup [.agg Core.zero.sv, .s (.int .i64 1)]) []) := by
  intro K hK
  refine enter fn_timer_Insert rfl nt_timer_Insert rfl rfl (fun φ w0 β0 F => ?_)
  refine c_run tt_ok ctNo_ok k_timer_Insert [] 60 (by kernel_rfl) ?_
  repeat' (first | (refine And.intro ?_ ?_) | (intro h; exact absurd h (by decide)) | (refine fun _ => ?_))
  all_goals exact fin_k tt_ok (rs := rs_timer_Insert) rfl rfl hK [] rfl rfl rfl rfl rfl rfl
theorem TRemove_0 (k : Core) (w d : Int) : Con Try.prog f_timer_Remove [.agg k.sv, .s (.loc 0 0), .s (.int .i32 w), .s (.int .i64 d)] [.blk 33 [.raw (.slice none 0 0)]] (.ret (.tup [.agg Core.zero.sv, .s (.int .i64 1)]) [.blk 33 [.raw (.slice none 0 0)]]) := by
  intro K hK
  refine enter fn_timer_Remove rfl nt_timer_Remove rfl rfl (fun φ w0 β0 F => ?_)
  refine c_run tt_ok ctNo_ok k_timer_Remove [] 60 (by kernel_rfl) ?_
  repeat' (first | (refine And.intro ?_ ?_) | (intro h; exact absurd h (by decide)) | (refine fun _ => ?_))
  all_goals exact fin_k tt_ok (rs := rs_timer_Remove) rfl rfl hK [0] rfl rfl rfl rfl rfl rfl
theorem TRemove_n (k : Core) (w d : Int) : Con Try.prog f_timer_Remove [.agg k.sv, .s (.raw (.pointer none)), .s (.int .i32 w), .s (.int .i64 d)] [] (.ret (.tup [.agg Core.zero.sv, .s (.int .i64 1)]) []) := by
  intro K hK
  refine enter fn_timer_Remove rfl nt_timer_Remove rfl rfl (fun φ w0 β0 F => ?_)
  refine c_run tt_ok ctNo_ok k_timer_Remove [] 60 (by kernel_rfl) ?_
  repeat' (first | (refine And.intro ?_ ?_) | (intro h; exact absurd h (by decide)) | (refine fun _ => ?_))
  all_goals exact fin_k tt_ok (rs := rs_timer_Remove) rfl rfl hK [] rfl rfl rfl rfl rfl rfl
theorem TTick_0 (k : Core)  : Con Try.prog f_timer_Tick [.agg k.sv, .s (.loc 0 0)] [.blk 33 [.raw (.slice none 0 0)]] (.ret (.tup [.agg Core.zero.sv, .s (.int .i64 1)]) [.blk 33 [.raw (.slice none 0 0)]]) := by
  intro K hK
  refine enter fn_timer_Tick rfl nt_timer_Tick rfl rfl (fun φ w0 β0 F => ?_)
  refine c_run tt_ok ctNo_ok k_timer_Tick [] 60 (by kernel_rfl) ?_
  repeat' (first | (refine And.intro ?_ ?_) | (intro h; exact absurd h (by decide)) | (refine fun _ => ?_))
  all_goals exact fin_k tt_ok (rs := rs_timer_Tick) rfl rfl hK [0] rfl rfl rfl rfl rfl rfl
theorem TTick_n (k : Core)  : Con Try.prog f_timer_Tick [.agg k.sv, .s (.raw (.pointer none))] [] (.ret (.tup [.agg Core.zero.sv, .s (.int .i64 1)]) []) := by
  intro K hK
  refine enter fn_timer_Tick rfl nt_timer_Tick rfl rfl (fun φ w0 β0 F => ?_)
  refine c_run tt_ok ctNo_ok k_timer_Tick [] 60 (by kernel_rfl) ?_
  repeat' (first | (refine And.intro ?_ ?_) | (intro h; exact absurd h (by decide)) | (refine fun _ => ?_))
  all_goals exact fin_k tt_ok (rs := rs_timer_Tick) rfl rfl hK [] rfl rfl rfl rfl rfl rfl
theorem TExec_0 (k : Core) (f n : Int) : Con Try.prog f_timer_Exec [.agg k.sv, .s (.loc 0 0), .agg [.int .u8 f, .int .i32 n]] [.blk 33 [.raw (.slice none 0 0)]] (.ret (.tup [.agg Core.zero.sv, .s (.int .i64 1)]) [.blk 33 [.raw (.slice none 0 0)]]) := by
  intro K hK
  refine enter fn_timer_Exec rfl nt_timer_Exec rfl rfl (fun φ w0 β0 F => ?_)
  refine c_run tt_ok ctNo_ok k_timer_Exec [] 60 (by kernel_rfl) ?_
  repeat' (first | (refine And.intro ?_ ?_) | (intro h; exact absurd h (by decide)) | (refine fun _ => ?_))
  all_goals exact fin_k tt_ok (rs := rs_timer_Exec) rfl rfl hK [0] rfl rfl rfl rfl rfl rfl
theorem TExec_n (k : Core) (f n : Int) : Con Try.prog f_timer_Exec [.agg k.sv, .s (.raw (.pointer none)), .agg [.int .u8 f, .int .i32 n]] [] (.ret (.tup [.agg Core.zero.sv, .s (.int .i64 1)]) []) := by
  intro K hK
  refine enter fn_timer_Exec rfl nt_timer_Exec rfl rfl (fun φ w0 β0 F => ?_)
  refine c_run tt_ok ctNo_ok k_timer_Exec [] 60 (by kernel_rfl) ?_
  repeat' (first | (refine And.intro ?_ ?_) | (intro h; exact absurd h (by decide)) | (refine fun _ => ?_))
  all_goals exact fin_k tt_ok (rs := rs_timer_Exec) rfl rfl hK [] rfl rfl rfl rfl rfl rfl
noncomputable abbrev eQueueN : Ent := .st (conS (P := Try.prog) (f := f_timer_Queue) fun cargs σ0 => match cargs, σ0 with
  | [.agg cs, .s (.loc 0 0), .s (.int .i64 d)], [.blk 33 [.raw (.slice none 0 0)]] => withCore cs fun k hk => some ⟨.ret (.tup [.s (.raw (.slice none 0 0)), .s (.int .i64 1)]) [.blk 33 [.raw (.slice none 0 0)]], by subst hk; exact TQueue_0 k d⟩
  | [.agg cs, .s (.raw (.pointer none)), .s (.int .i64 d)], [] => withCore cs fun k hk => some ⟨.ret (.tup [.s (.raw (.slice none 0 0)), .s (.int .i64 1)]) [], by subst hk; exact TQueue_n k d⟩
  | _, _ => none)
noncomputable abbrev eInsertN : Ent := .st (conS (P := Try.prog) (f := f_timer_Insert) fun cargs σ0 => match cargs, σ0 with
  | [.agg cs, .s (.loc 0 0), .s (.int .i32 w), .s (.int .i32 v), .s (.int .i64 d)], [.blk 33 [.raw (.slice none 0 0)]] => withCore cs fun k hk => some ⟨.ret (.tup [.agg Core.zero.sv, .s (.int .i64 1)]) [.blk 33 [.raw (.slice none 0 0)]], by subst hk; exact TInsert_0 k w v d⟩
  | [.agg cs, .s (.raw (.pointer none)), .s (.int .i32 w), .s (.int .i32 v), .s (.int .i64 d)], [] => withCore cs fun k hk => some ⟨.ret (.tup [.agg Core.zero.sv, .s (.int .i64 1)]) [], by subst hk; exact TInsert_n k w v d⟩
  | _, _ => none)
noncomputable abbrev eRemoveN : Ent := .st (conS (P := Try.prog) (f := f_timer_Remove) fun cargs σ0 => match cargs, σ0 with
  | [.agg cs, .s (.loc 0 0), .s (.int .i32 w), .s (.int .i64 d)], [.blk 33 [.raw (.slice none 0 0)]] => withCore cs fun k hk => some ⟨.ret (.tup [.agg Core.zero.sv, .s (.int .i64 1)]) [.blk 33 [.raw (.slice none 0 0)]], by subst hk; exact TRemove_0 k w d⟩
  | [.agg cs, .s (.raw (.pointer none)), .s (.int .i32 w), .s (.int .i64 d)], [] => withCore cs fun k hk => some ⟨.ret (.tup [.agg Core.zero.sv, .s (.int .i64 1)]) [], by subst hk; exact TRemove_n k w d⟩
  | _, _ => none)
noncomputable abbrev eTickN : Ent := .st (conS (P := Try.prog) (f := f_timer_Tick) fun cargs σ0 => match cargs, σ0 with
  | [.agg cs, .s (.loc 0 0)], [.blk 33 [.raw (.slice none 0 0)]] => withCore cs fun k hk => some ⟨.ret (.tup [.agg Core.zero.sv, .s (.int .i64 1)]) [.blk 33 [.raw (.slice none 0 0)]], by subst hk; exact TTick_0 k ⟩
  | [.agg cs, .s (.raw (.pointer none))], [] => withCore cs fun k hk => some ⟨.ret (.tup [.agg Core.zero.sv, .s (.int .i64 1)]) [], by subst hk; exact TTick_n k ⟩
  | _, _ => none)
noncomputable abbrev eExecN : Ent := .st (conS (P := Try.prog) (f := f_timer_Exec) fun cargs σ0 => match cargs, σ0 with
  | [.agg cs, .s (.loc 0 0), .agg [.int .u8 f, .int .i32 n]], [.blk 33 [.raw (.slice none 0 0)]] => withCore cs fun k hk => some ⟨.ret (.tup [.agg Core.zero.sv, .s (.int .i64 1)]) [.blk 33 [.raw (.slice none 0 0)]], by subst hk; exact TExec_0 k f n⟩
  | [.agg cs, .s (.raw (.pointer none)), .agg [.int .u8 f, .int .i32 n]], [] => withCore cs fun k hk => some ⟨.ret (.tup [.agg Core.zero.sv, .s (.int .i64 1)]) [], by subst hk; exact TExec_n k f n⟩
  | _, _ => none)
noncomputable abbrev ctSn : CT := [(f_timer_Queue, eQueueN), (f_timer_Insert, eInsertN), (f_timer_Remove, eRemoveN), (f_timer_Tick, eTickN), (f_timer_Exec, eExecN), (f_l32_head, eHead)]
theorem ctSn_ok : CTok Try.prog ctSn := ⟨con_ok cal_timer_Queue _, con_ok cal_timer_Insert _, con_ok cal_timer_Remove _, con_ok cal_timer_Tick _, con_ok cal_timer_Exec _, con_ok cal_l32_head _, trivial⟩
set_option maxHeartbeats 4000000 in
theorem TimerNone_c (k : Core) (what a v pri fn n : Int) : Con Try.prog f_l32_TimerNone [.agg k.sv, .agg [.int .u8 what, .int .i32 a, .int .i32 v, .int .i64 pri, .int .u8 fn, .int .i32 n]] [] (.ret (.t (.s (.bool true))) []) := by
  intro K hK
  refine enter fn_l32_TimerNone rfl nt_l32_TimerNone rfl rfl (fun φ w0 β0 F => ?_)
  refine c_run tt_ok ctSn_ok k_l32_TimerNone [] 90 (by kernel_rfl) ?_
  refine c_unroll 2 ?_
  refine c_run' tt_ok ctSn_ok k_l32_TimerNone [] 120 (by kernel_rfl) (by kernel_rfl) ?_
  repeat' (first | (refine And.intro ?_ ?_) | (intro h; exact absurd h (by decide)) | (refine fun _ => ?_))
  all_goals exact fin_k tt_ok (rs := rs_l32_TimerNone) rfl rfl hK [] rfl rfl rfl rfl rfl rfl
end Go.Proofs

namespace Go.Proofs
open Go Go.Sx
set_option maxRecDepth 10000
theorem seg_qV (l : List Int) (o n : Nat) : seg (qV l) o n = qV ((l.drop o).take n) := by unfold seg qV; rw [List.map_take, List.map_drop]
theorem lput_c (L : List Int) (c : Nat) (k : Nat) (x : Int) (hk : k ≤ L.length) (hn : L.length ≤ 1000) (hc : L.length ≤ c) : Con Try.prog f_l32_put [.s (.sl 0 0 L.length c), .s (.int .i64 (k : Int)), .s (.int .i32 x)] [.view (qV L)]
    (.all Nat (fun c => L.length + 1 ≤ c) fun c => .ret (.t (.s (.sl 1 0 (L.length + 1) c))) [.view (qV L), .own 21 1 c (qV (L.take k ++ x :: L.drop k))]) := by
  intro K hK
  have hql := qV_len L
  refine enter fn_l32_put rfl nt_l32_put rfl rfl (fun φ w0 β0 F => ?_)
  refine c_run tt_ok (ct := []) trivial k_l32_put [] 60 (by kernel_rfl) ?_
  refine ⟨0, k, ⟨_, _, rfl, rfl, rfl, rfl⟩, ⟨by omega, by omega⟩, ?_⟩
  refine ⟨⟨by simp [seg]; omega, one_seg (one_seg (qV_one _)), by simp only [maxLen]; omega, by omega⟩, fun c1 h1 h1' => ?_⟩
  refine ⟨⟨rfl, by simp [seg]; omega, Nat.le_refl 1, fun u hu => ?_, by simp only [maxLen]; omega, by omega⟩, fun c2 h2 h2' => ?_⟩
  · rw [List.mem_singleton.1 (List.mem_of_mem_drop (List.mem_of_mem_take hu))]; rfl
  refine ⟨k, L.length, ⟨_, _, rfl, rfl, rfl, rfl⟩, ⟨by omega, by omega⟩, ?_⟩
  refine ⟨⟨rfl, ?_, ?_, ?_, by simp only [maxLen]; omega, by omega⟩, fun c3 h3 h3' => ?_⟩
  · simp [seg]; omega
  · show 0 + (L.length - k) * 1 ≤ _; simp [seg]; omega
  · exact one_seg (one_seg (qV_one _))
  have h2e : L.length + 1 ≤ c3 := by have h3' : k - 0 + 1 + (L.length - k) ≤ c3 := h3; omega
  refine fin_k tt_ok (rs := rs_l32_put) rfl rfl (hK c3 h2e) [0, 7] ?_ ?_ rfl rfl rfl rfl
  · rw [show k - 0 + 1 + (L.length - k) = L.length + 1 by omega]; rfl
  · have e : seg (seg (qV L) (0 + 0 * 1) ((k - 0) * 1)) 0 ((k - 0) * 1) ++ seg (List.map SV.cv [SV.int IntKind.i32 x]) 0 (1 * 1) ++ seg (seg (qV L) (0 + k * 1) ((L.length - k) * 1)) 0 ((L.length - k) * 1) = qV (L.take k ++ x :: L.drop k) := by
      simp only [Nat.mul_one, Nat.add_zero, Nat.zero_add, Nat.sub_zero, seg_qV, List.drop_zero, List.take_take, Nat.min_self, qV_app]
      rw [List.take_of_length_le (l := List.drop k L) (by simp), List.append_assoc]
      rfl
    simp only [pickL, List.getElem?_cons_zero, List.getElem?_cons_succ]
    rw [e]; rfl
noncomputable abbrev eLput : Ent := .st (conS (P := Try.prog) (f := f_l32_put) fun cargs σ0 => match cargs, σ0 with
  | [.s (.sl 0 0 n c), .s (.int .i64 k), .s (.int .i32 x)], [.view ys] => some ⟨.ex (List Int × Nat) fun p => .ask (n = p.1.length ∧ ys = qV p.1 ∧ k = (p.2 : Int) ∧ p.2 ≤ p.1.length ∧ p.1.length ≤ 1000 ∧ p.1.length ≤ c)
      (.all Nat (fun c => p.1.length + 1 ≤ c) fun c => .ret (.t (.s (.sl 1 0 (p.1.length + 1) c))) [.view (qV p.1), .own 21 1 c (qV (p.1.take p.2 ++ x :: p.1.drop p.2))]), fun K h => by
      obtain ⟨⟨L, j⟩, ⟨e1, e2, e3, h1, h2, h3⟩, h⟩ := h
      dsimp only at e1 e2 e3 h1 h2 h3 h
      subst e1; subst e2; subst e3
      exact lput_c L c j x h1 h2 h3 K h⟩
  | _, _ => none)
/-- Where an offset goes. -/
def plcN (L : List Int) (x : Int) : Nat := (L.takeWhile fun y => decide (y ≤ x)).length
theorem plcN_le (L : List Int) (x : Int) : plcN L x ≤ L.length := (List.takeWhile_sublist _).length_le
theorem lplace_c (L : List Int) (c : Nat) (x : Int) (hn : L.length ≤ 1000) : Con Try.prog f_l32_place [.s (.sl 0 0 L.length c), .s (.int .i32 x)] [.view (qV L)] (.ret (.t (.s (.int .i64 (plcN L x : Nat)))) [.view (qV L)]) := by
  intro K hK
  refine enter fn_l32_place rfl nt_l32_place rfl rfl (fun φ w0 β0 F => ?_)
  refine c_run tt_ok (ct := []) trivial k_l32_place [] 60 (by kernel_rfl) ?_
  show WpC _ _ _ _ _
  refine c_loop (α := Nat) (fun i => i ≤ L.length ∧ plcN L x = i + plcN (L.drop i) x) (fun i => L.length - i)
    (fun i => [(0, .t (.s (.sl 0 0 L.length c)), none), (1, .t (.s (.int .i32 x)), none), (5, .t (.s (.int .i64 (i : Int))), none)])
    (fun _ => [.view (qV L)]) 0 ?_ ?_ ?_
  · exact ⟨Nat.zero_le _, by simp⟩
  · exact into [0] ⟨⟨_, rfl, rfl⟩, ⟨_, rfl, rfl⟩, ⟨_, rfl, rfl⟩, trivial⟩ ⟨_, rfl, rfl⟩ rfl rfl rfl rfl
  · rintro i ⟨hi, hlaw⟩
    refine c_run' tt_ok (ct := []) trivial k_l32_place [] 60 (by kernel_rfl) (by kernel_rfl) ?_
    refine ⟨i, fun hh => ?_, ?_⟩
    · have := of_decide_eq_true hh; rw [qV_len]; refine ⟨rfl, by omega, ?_⟩; rw [Nat.zero_add, Nat.zero_add, Nat.mul_one]; omega
    refine ⟨.int .i32 (L.getD i 0), rfl, fun hh => ?_, ?_⟩
    · have hlt : i < L.length := by have := of_decide_eq_true hh; omega
      rw [show 0 + i * (0 + 1) = i by omega]
      exact qV_at (by rw [List.getD_eq_getElem?_getD, List.getElem?_eq_getElem hlt]; rfl)
    refine ⟨fun h1 => ?_, fun h1 => ?_⟩
    · have hlt : i < L.length := by
        by_cases hh : (i : Int) < (L.length : Int)
        · omega
        · rw [show decide ((i : Int) < (L.length : Int)) = false by simpa using hh] at h1; cases h1
      have hle : L.getD i 0 ≤ x := by
        rw [show decide ((i : Int) < (L.length : Int)) = true by simpa using hlt] at h1
        exact of_decide_eq_true h1
      have hp : plcN (L.drop i) x = 1 + plcN (L.drop (i + 1)) x := by
        have hx : L.getD i 0 = L[i] := by rw [List.getD_eq_getElem?_getD, List.getElem?_eq_getElem hlt]; rfl
        rw [List.drop_eq_getElem_cons hlt]
        unfold plcN
        rw [List.takeWhile_cons_of_pos (by rw [← hx]; simpa using hle)]
        simp; omega
      refine e_again (i + 1) ⟨hlt, by omega⟩ (by omega) (into [0] ⟨⟨_, rfl, rfl⟩, ⟨_, rfl, rfl⟩, ⟨_, rfl, ?_⟩, trivial⟩ ⟨_, rfl, rfl⟩ rfl rfl rfl rfl)
      show FV.t (.s (.int .i64 (IntKind.i64.wrap ((i : Int) + 1)))) = .t (.s (.int .i64 ((i + 1 : Nat) : Int)))
      rw [wrap64 (by omega) (by omega)]; rfl
    · have hp : plcN (L.drop i) x = 0 := by
        by_cases hlt : i < L.length
        · have hx : L.getD i 0 = L[i] := by rw [List.getD_eq_getElem?_getD, List.getElem?_eq_getElem hlt]; rfl
          have hnle : ¬ L.getD i 0 ≤ x := by
            rw [show decide ((i : Int) < (L.length : Int)) = true by simpa using hlt] at h1
            exact of_decide_eq_false h1
          rw [List.drop_eq_getElem_cons hlt]
          unfold plcN
          rw [List.takeWhile_cons_of_neg (by rw [← hx]; simpa using hnle)]; rfl
        · rw [List.drop_eq_nil_of_le (by omega)]; rfl
      rw [hp] at hlaw
      rw [hlaw] at hK
      exact fin_k tt_ok (rs := rs_l32_place) rfl rfl hK [0] rfl rfl rfl rfl rfl rfl
noncomputable abbrev eLplace : Ent := .st (conS (P := Try.prog) (f := f_l32_place) fun cargs σ0 => match cargs, σ0 with
  | [.s (.sl 0 0 n c), .s (.int .i32 x)], [.view ys] => some ⟨.ex (List Int × Nat) fun p => .ask (n = p.1.length ∧ ys = qV p.1 ∧ p.1.length ≤ 1000 ∧ plcN p.1 x = p.2)
      (.ret (.t (.s (.int .i64 (p.2 : Int)))) [.view (qV p.1)]), fun K h => by
      obtain ⟨⟨L, j⟩, ⟨e1, e2, h1, h2⟩, h⟩ := h
      dsimp only at e1 e2 h1 h2 h
      subst e1; subst e2; subst h2
      exact lplace_c L c x h1 K h⟩
  | _, _ => none)
end Go.Proofs
