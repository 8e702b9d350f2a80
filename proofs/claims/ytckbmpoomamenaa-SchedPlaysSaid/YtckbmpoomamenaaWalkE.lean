/- Plain laws: queues of processes in a memory of 2048 bytes. -/
import Derived.Test.YtckbmpoomamenaaWalkD

namespace Go.Proofs
open Go Go.Sx
set_option maxRecDepth 10000
/-- An address of a word of a memory of 2048 bytes. -/
def inB (a : Int) : Prop := a % 4 = 0 ∧ -2147483648 ≤ a ∧ a < -2147481600
theorem inB_bad {m : Ram} {a : Int} (hl : m.l.length = 2048) (ha : inB a) : wBad m a = false := by
  unfold inB at ha
  unfold wBad spanBad ofAt wAt
  rw [hl, show decide (a - a % 4 + 2147483648 ≥ ((2048 : Nat) : Int)) = false by simp; omega]
  simp; omega
theorem inB_err {m : Ram} {a : Int} (hl : m.l.length = 2048) (ha : inB a) : m.err a = 0 := by unfold Ram.err; rw [inB_bad hl ha]; rfl
theorem word_setB {m : Ram} {a b v : Int} (hl : m.l.length = 2048) (ha : inB a) (hb : inB b) (hv : I32 v) : (m.set a v).word b = if a = b then v else m.word b := by
  have h1 := inB_bad hl ha
  have h2 := inB_bad hl hb
  have hA := wBad_nat h1
  have hB := wBad_nat h2
  unfold Ram.word
  rw [set_wBad, h2, set_ok h1]
  simp only [cond_false]
  split
  · rename_i e; subst e; exact getW_setW hA hv
  · rename_i hne
    unfold inB at ha hb
    unfold ofAt wAt at *
    unfold getW setW
    rw [stW_get hA 4 (by decide), stW_get hA 4 (by decide), stW_get hA 4 (by decide), stW_get hA 4 (by decide)]
    rw [if_neg (by omega), if_neg (by omega), if_neg (by omega), if_neg (by omega)]
/-- The workspace of the process i. -/
def spc (i : Nat) : Int := -2147483488 + 32 * (i : Int)
theorem spc_inj {i j : Nat} (h : spc i = spc j) : i = j := by unfold spc at h; omega
theorem spc_I32 {i : Nat} (h : i < 50) : I32 (spc i) := by unfold I32 spc; omega
theorem spc_in {i : Nat} (h : i < 50) {d : Int} (h0 : 0 ≤ d) (h1 : d ≤ 64) (h4 : d % 4 = 0) : inB (spc i - d) := by unfold inB spc; omega
theorem spc_np {i : Nat} (h : i < 50) : (spc i == NP) = false := by unfold spc NP; simp; omega
theorem spc_valid {m : Ram} {i : Nat} (hl : m.l.length = 2048) (h : i < 50) : validB m (spc i) = true := by
  unfold validB ofAt spc
  rw [hl, show ((-2147483488 + 32 * (i : Int)) % 4 == 0) = true by simp; omega, show decide (-2147483488 + 32 * (i : Int) + 2147483648 ≥ 20) = true by simp; omega]
  simp; omega
def fstQ : List Nat → Int
  | [] => NP
  | i :: _ => spc i
def lstQ : List Nat → Int
  | [] => NP
  | [i] => spc i
  | _ :: j :: t => lstQ (j :: t)
def Chn (m : Ram) : List Nat → Prop
  | [] => True
  | [_] => True
  | i :: j :: t => m.word (spc i - 8) = spc j ∧ Chn m (j :: t)
/-- The processes Q lie in the queue of priority o. -/
structure QI (k : Core) (m : Ram) (o : Bool) (Q : List Nat) : Prop where
  f : k.fr o = fstQ Q
  b : k.bk o = lstQ Q
  c : Chn m Q
  nd : Q.Nodup
  lt : ∀ i ∈ Q, i < 50
theorem lstQ_app : ∀ (Q : List Nat) (i : Nat), lstQ (Q ++ [i]) = spc i
  | [], _ => rfl
  | [_], _ => rfl
  | _ :: j :: t, i => lstQ_app (j :: t) i
theorem fstQ_app {Q : List Nat} (h : Q ≠ []) (i : Nat) : fstQ (Q ++ [i]) = fstQ Q := by
  cases Q with
  | nil => exact absurd rfl h
  | cons a t => rfl
theorem lstQ_mem : ∀ {Q : List Nat}, Q ≠ [] → ∃ j ∈ Q, lstQ Q = spc j
  | [], h => absurd rfl h
  | [i], _ => ⟨i, by simp, rfl⟩
  | a :: j :: t, _ => by
    obtain ⟨x, hx, h⟩ := lstQ_mem (Q := j :: t) (by simp)
    exact ⟨x, List.mem_cons_of_mem _ hx, h⟩
theorem chn_app {m : Ram} (hl : m.l.length = 2048) : ∀ {Q : List Nat} {i j : Nat}, Chn m Q → Q.Nodup → (∀ x ∈ Q, x < 50) → i < 50 → j ∈ Q → lstQ Q = spc j → Chn (m.set (spc j - 8) (spc i)) (Q ++ [i])
  | [], _, _, _, _, _, _, hj, _ => by simp at hj
  | [a], i, j, _, _, hlt, hi, hj, hlq => by
    have e := spc_inj hlq
    subst e
    refine ⟨?_, trivial⟩
    rw [word_setB hl (spc_in (hlt a (by simp)) (by decide) (by decide) (by decide)) (spc_in (hlt a (by simp)) (by decide) (by decide) (by decide)) (spc_I32 hi), if_pos rfl]
  | a :: b :: t, i, j, hc, hn, hlt, hi, hj, hlq => by
    have hjb : j ∈ b :: t := by
      obtain ⟨x, hx, e⟩ := lstQ_mem (Q := b :: t) (by simp)
      have : spc j = spc x := by rw [← hlq]; exact e
      rw [spc_inj this]; exact hx
    have haj : a ≠ j := fun e => by subst e; exact (List.nodup_cons.1 hn).1 hjb
    refine ⟨?_, chn_app hl hc.2 (List.nodup_cons.1 hn).2 (fun x hx => hlt x (List.mem_cons_of_mem _ hx)) hi hjb hlq⟩
    rw [word_setB hl (spc_in (hlt j hj) (by decide) (by decide) (by decide)) (spc_in (hlt a (by simp)) (by decide) (by decide) (by decide)) (spc_I32 hi), if_neg (fun e => haj (spc_inj (by omega)))]
    exact hc.1
theorem fr_setF (k : Core) (o : Bool) (w : Int) : (k.setF o w).fr o = w := by cases o <;> rfl
theorem bk_setF (k : Core) (o : Bool) (w : Int) : (k.setF o w).bk o = k.bk o := by cases o <;> rfl
theorem fr_setB (k : Core) (o : Bool) (w : Int) : (k.setB o w).fr o = k.fr o := by cases o <;> rfl
theorem bk_setB (k : Core) (o : Bool) (w : Int) : (k.setB o w).bk o = w := by cases o <;> rfl
theorem fr_setF' (k : Core) (o : Bool) (w : Int) : (k.setF o w).fr (!o) = k.fr (!o) := by cases o <;> rfl
theorem bk_setF' (k : Core) (o : Bool) (w : Int) : (k.setF o w).bk (!o) = k.bk (!o) := by cases o <;> rfl
theorem fr_setB' (k : Core) (o : Bool) (w : Int) : (k.setB o w).fr (!o) = k.fr (!o) := by cases o <;> rfl
theorem bk_setB' (k : Core) (o : Bool) (w : Int) : (k.setB o w).bk (!o) = k.bk (!o) := by cases o <;> rfl
theorem chn_keep {m m' : Ram} : ∀ {Q : List Nat}, Chn m Q → (∀ i ∈ Q, m'.word (spc i - 8) = m.word (spc i - 8)) → Chn m' Q
  | [], _, _ => trivial
  | [_], _, _ => trivial
  | a :: b :: t, hc, h => ⟨(h a (by simp)).trans hc.1, chn_keep hc.2 fun i hi => h i (List.mem_cons_of_mem _ hi)⟩
/-- A core whose queue o is as it was, over a memory whose links are as they were. -/
theorem QI.keep {k k' : Core} {m m' : Ram} {o : Bool} {Q : List Nat} (h : QI k m o Q) (hf : k'.fr o = k.fr o) (hb : k'.bk o = k.bk o) (hm : ∀ i ∈ Q, m'.word (spc i - 8) = m.word (spc i - 8)) : QI k' m' o Q :=
  ⟨hf.trans h.f, hb.trans h.b, chn_keep h.c hm, h.nd, h.lt⟩
def appK (k : Core) (o : Bool) (Q : List Nat) (i : Nat) : Core := match Q with
  | [] => (k.setF o (spc i)).setB o (spc i)
  | _ => k.setB o (spc i)
def appM (m : Ram) (Q : List Nat) (i : Nat) : Ram := match Q with
  | [] => m
  | _ => m.set (lstQ Q - 8) (spc i)
theorem wsp_spc (i : Nat) (o : Bool) : wsp (spc i + bif o then 1 else 0) = spc i ∧ odd (spc i + bif o then 1 else 0) = o := by
  cases o
  · refine ⟨?_, ?_⟩
    · show wsp (spc i + 0) = _
      unfold wsp spc; omega
    · show odd (spc i + 0) = _
      unfold odd spc; simp; omega
  · refine ⟨?_, ?_⟩
    · show wsp (spc i + 1) = _
      unfold wsp spc; omega
    · show odd (spc i + 1) = _
      unfold odd spc; simp; omega
theorem app_law {k : Core} {m : Ram} {o : Bool} {Q : List Nat} {i : Nat} (hl : m.l.length = 2048) (h : QI k m o Q) (hi : i < 50) (hn : i ∉ Q) :
    appR k m (spc i + bif o then 1 else 0) = (appK k o Q i, 0, appM m Q i) ∧ QI (appK k o Q i) (appM m Q i) o (Q ++ [i]) ∧ (appM m Q i).l.length = 2048 := by
  obtain ⟨e1, e2⟩ := wsp_spc i o
  have hv := spc_valid hl hi
  cases Q with
  | nil =>
    refine ⟨?_, ⟨?_, ?_, trivial, by simp, fun j hj => by rw [List.mem_singleton.1 hj]; exact hi⟩, hl⟩
    · unfold appR
      rw [e1, e2, hv, h.f, show (fstQ [] == NP) = true from rfl]
      rfl
    · show ((k.setF o (spc i)).setB o (spc i)).fr o = _
      rw [fr_setB, fr_setF]; rfl
    · show ((k.setF o (spc i)).setB o (spc i)).bk o = _
      rw [bk_setB]; rfl
  | cons a t =>
    obtain ⟨j, hj, hq⟩ := lstQ_mem (Q := a :: t) (by simp)
    have hjl := h.lt j hj
    have hal := h.lt a (by simp)
    refine ⟨?_, ⟨?_, ?_, ?_, ?_, ?_⟩, ?_⟩
    · unfold appR
      rw [e1, e2, hv, h.f, h.b, hq, show (fstQ (a :: t) == NP) = false from spc_np hal, spc_valid hl hjl]
      show (k.setB o (spc i), (0 : Int), m.set (IntKind.i32.wrap (spc j + -8)) (spc i)) = (k.setB o (spc i), 0, m.set (lstQ (a :: t) - 8) (spc i))
      rw [hq, show IntKind.i32.wrap (spc j + -8) = spc j - 8 by rw [IntKind.wrap_i32]; unfold spc; omega]
    · show (k.setB o (spc i)).fr o = _
      rw [fr_setB, h.f]; rfl
    · show (k.setB o (spc i)).bk o = _
      rw [bk_setB, lstQ_app]
    · show Chn (m.set (lstQ (a :: t) - 8) (spc i)) _
      rw [hq]
      exact chn_app hl h.c h.nd h.lt hi hj hq
    · rw [List.nodup_append]
      exact ⟨h.nd, by simp, fun x hx y hy e => hn (by rw [List.mem_singleton.1 hy] at e; rw [← e]; exact hx)⟩
    · intro x hx
      rcases List.mem_append.1 hx with hx | hx
      · exact h.lt x hx
      · rw [List.mem_singleton.1 hx]; exact hi
    · exact (set_len _ _ _).trans hl
def pO (o : Bool) : Int := bif o then 1 else 0
theorem pO_one (o : Bool) : (pO o == 1) = o ∧ priB (pO o) = true := by cases o <;> exact ⟨rfl, rfl⟩
def takK (k : Core) (o : Bool) (Q : List Nat) : Core := match Q with
  | [] => (k.setF o NP).setB o NP
  | _ => k.setF o (fstQ Q)
theorem lstQ_ne {i : Nat} {Q : List Nat} (hn : (i :: Q).Nodup) (hq : Q ≠ []) : (spc i == lstQ (i :: Q)) = false := by
  cases Q with
  | nil => exact absurd rfl hq
  | cons a t =>
    obtain ⟨x, hx, e⟩ := lstQ_mem (Q := a :: t) (by simp)
    have : lstQ (i :: a :: t) = spc x := e
    rw [this]
    have hne : i ≠ x := fun h => by subst h; exact (List.nodup_cons.1 hn).1 hx
    simp only [beq_eq_false_iff_ne, ne_eq]
    exact fun h => hne (spc_inj h)
theorem wrap8 {i : Nat} (h : i < 50) : IntKind.i32.wrap (spc i + -8) = spc i - 8 := by rw [IntKind.wrap_i32]; unfold spc; omega
theorem tak_law {k : Core} {m : Ram} {o : Bool} {i : Nat} {Q : List Nat} (hl : m.l.length = 2048) (h : QI k m o (i :: Q)) :
    takR k m (pO o) = (takK k o Q, spc i, 0) ∧ QI (takK k o Q) m o Q := by
  have hi := h.lt i (by simp)
  obtain ⟨e1, e2⟩ := pO_one o
  have hf : k.fr o = spc i := h.f
  have hstep : takR k m (pO o) = bif spc i == k.bk o then ((k.setF o NP).setB o NP, spc i, 0) else (k.setF o (m.word (spc i - 8)), spc i, 0) := by
    unfold takR
    have e2' : (pO o == 0 || pO o == 1) = true := e2
    rw [e2', e1, hf, spc_np hi, spc_valid hl hi, wrap8 hi]; rfl
  cases Q with
  | nil =>
    refine ⟨?_, ⟨?_, ?_, trivial, List.nodup_nil, fun x hx => by simp at hx⟩⟩
    · rw [hstep, h.b, show (spc i == lstQ [i]) = true by show (spc i == spc i) = true; simp]; rfl
    · show ((k.setF o NP).setB o NP).fr o = _
      rw [fr_setB, fr_setF]; rfl
    · show ((k.setF o NP).setB o NP).bk o = _
      rw [bk_setB]; rfl
  | cons a t =>
    refine ⟨?_, ⟨?_, ?_, h.c.2, (List.nodup_cons.1 h.nd).2, fun x hx => h.lt x (List.mem_cons_of_mem _ hx)⟩⟩
    · rw [hstep, h.b, lstQ_ne h.nd (by simp), h.c.1]; rfl
    · show (k.setF o (fstQ (a :: t))).fr o = _
      rw [fr_setF]
    · show (k.setF o (fstQ (a :: t))).bk o = _
      rw [bk_setF, h.b]; rfl
theorem tak_none {k : Core} {m : Ram} {o : Bool} (h : QI k m o []) : takR k m (pO o) = (.zero, 0, 6) := by
  obtain ⟨e1, e2⟩ := pO_one o
  unfold takR
  have e2' : (pO o == 0 || pO o == 1) = true := e2
  rw [e2', e1, h.f, show (fstQ [] == NP) = true from rfl]; rfl
theorem queL_law {m : Ram} (hl : m.l.length = 2048) : ∀ (Q : List Nat) (i : Nat) (f : Nat) (L : List Int), Chn m (i :: Q) → (i :: Q).Nodup → (∀ x ∈ i :: Q, x < 50) → Q.length + 1 ≤ f → L.length + Q.length + 1 ≤ 1024 →
    queL f m (lstQ (i :: Q)) (spc i) L = (L ++ (i :: Q).map spc, 0)
  | [], i, f, L, _, _, hlt, hf, hL => by
    obtain ⟨f, rfl⟩ : ∃ f', f = f' + 1 := ⟨f - 1, by simp at hf; omega⟩
    rw [queL, spc_valid hl (hlt i (by simp)), show (L.length == 1024) = false by simp at hL ⊢; omega, show (spc i == lstQ [i]) = true by show (spc i == spc i) = true; simp]
    rfl
  | a :: t, i, f, L, hc, hn, hlt, hf, hL => by
    obtain ⟨f, rfl⟩ : ∃ f', f = f' + 1 := ⟨f - 1, by simp at hf; omega⟩
    simp only [List.length_cons] at hf hL
    rw [queL, spc_valid hl (hlt i (by simp)), show (L.length == 1024) = false by simp; omega, lstQ_ne hn (by simp), wrap8 (hlt i (by simp)), hc.1]
    show queL f m (lstQ (a :: t)) (spc a) (L ++ [spc i]) = _
    rw [queL_law hl t a f (L ++ [spc i]) hc.2 (List.nodup_cons.1 hn).2 (fun x hx => hlt x (List.mem_cons_of_mem _ hx)) (by omega) (by simp only [List.length_append, List.length_singleton]; omega), List.append_assoc]
    rfl
theorem que_law {k : Core} {m : Ram} {o : Bool} {Q : List Nat} (hl : m.l.length = 2048) (h : QI k m o Q) (hn : Q.length ≤ 1024) : queR k m (pO o) = (Q.map spc, 0) := by
  obtain ⟨e1, e2⟩ := pO_one o
  unfold queR
  rw [e2, e1, h.f, h.b, Bool.not_true, cond_false]
  cases Q with
  | nil => rw [show (fstQ [] == NP) = true from rfl, cond_true]; simp
  | cons i t =>
    rw [show (fstQ (i :: t) == NP) = false from spc_np (h.lt i (by simp)), cond_false, show fstQ (i :: t) = spc i from rfl, queL_law hl t i queN [] h.c h.nd h.lt (by rw [queN_eq]; simp only [List.length_cons] at hn; omega) (by simp only [List.length_cons, List.length_nil] at hn ⊢; omega), List.nil_append]
end Go.Proofs

namespace Go.Proofs
open Go Go.Sx
set_option maxRecDepth 10000
theorem space_c (i : Nat) (hi : i < 50) : Con Try.prog f_l29_space [.s (.int .i64 (i : Int))] [] (.ret (.t (.s (.int .i32 (spc i)))) []) := by
  intro K hK
  refine enter fn_l29_space rfl nt_l29_space rfl rfl (fun φ w0 β0 F => ?_)
  refine c_run tt_ok (ct := []) trivial k_l29_space [] 60 (by kernel_rfl) ?_
  refine fin_k tt_ok (rs := rs_l29_space) rfl rfl hK [] ?_ rfl rfl rfl rfl rfl
  have e : IntKind.i32.wrap (-2147483488 + IntKind.i32.wrap (32 * IntKind.i32.wrap (i : Int))) = spc i := by
    simp only [IntKind.wrap_i32]; unfold spc; omega
  show FV.t (.s (.int .i32 (IntKind.i32.wrap (-2147483488 + IntKind.i32.wrap (32 * IntKind.i32.wrap (i : Int)))))) = _
  rw [e]; rfl
noncomputable abbrev eSpace : Ent := .st (conS (P := Try.prog) (f := f_l29_space) fun cargs σ0 => match cargs, σ0 with
  | [.s (.int .i64 v)], [] => some ⟨.ex Nat fun i => .ask (v = (i : Int) ∧ i < 50) (.ret (.t (.s (.int .i32 (spc i)))) []), fun K h => by
      obtain ⟨i, ⟨rfl, h1⟩, h⟩ := h
      exact space_c i h1 K h⟩
  | _, _ => none)
noncomputable abbrev ctOr : CT := [(f_mem_New, eNew), (f_r29_Reset, eReset), (f_sched_Append, eAppend), (f_sched_Queue, eQueue), (f_sched_Take, eTake), (f_r29_Same, .rd rdSame), (f_l29_space, eSpace), (f_l29_head, eHead)]
theorem ctOr_ok : CTok Try.prog ctOr := ⟨con_ok cal_mem_New _, con_ok cal_r29_Reset _, con_ok cal_sched_Append _, con_ok cal_sched_Queue _, con_ok cal_sched_Take _, re_same, con_ok cal_l29_space _, con_ok cal_l29_head _, trivial⟩
def usedV (L : List Nat) : List Value := (List.range 50).map fun j => .bool (decide (j ∈ L))
theorem u8_fit' {n : Int} (h : (Lit.int .u8 n).wf = true) : 0 ≤ n ∧ n < 256 := by
  simp [Lit.wf, IntKind.min, IntKind.max, IntKind.signed, IntKind.bits] at h
  omega
theorem told_i {K : IntKind} {a b : Int} {β : Nat → Bd} (h : a = b) : (FV.t (.s (.int K b))).den β = (FV.t (.s (.int K a))).den β := by rw [h]
theorem usedV_at {L : List Nat} {j : Nat} (h : j < 50) : (usedV L)[j]? = some (.bool (decide (j ∈ L))) := by
  unfold usedV; rw [List.getElem?_map, List.getElem?_range h]; rfl
theorem usedV_set {L : List Nat} {j : Nat} (h : j < 50) : setV (usedV L) (0 + j * (0 + 1)) (List.map SV.cv [SV.bool true]) = usedV (L ++ [j]) := by
  have hl : (usedV L).length = 50 := by simp [usedV]
  have hl' : (usedV (L ++ [j])).length = 50 := by simp [usedV]
  rw [show 0 + j * (0 + 1) = j by omega]
  have e : setV (usedV L) j (List.map SV.cv [SV.bool true]) = (usedV L).set j (.bool true) := by
    rw [List.set_eq_take_append_cons_drop, if_pos (by omega)]; simp [setV]; rfl
  rw [e]
  apply List.ext_getElem?
  intro t
  by_cases ht : t < 50
  · rw [List.getElem?_set, usedV_at ht, usedV_at ht]
    by_cases hjt : j = t
    · subst hjt; simp [hl, h]
    · have : t ≠ j := fun e => hjt e.symm
      simp [hjt, this]
  · rw [List.getElem?_eq_none (by simp [hl]; omega), List.getElem?_eq_none (by omega)]
theorem usedV_len (L : List Nat) : (usedV L).length = 50 := by simp [usedV]
theorem zz_len : Ram.zz.l.length = 2048 := List.length_replicate ..
theorem QI_zero (o : Bool) (m : Ram) : QI K0 m o [] := ⟨by cases o <;> rfl, by cases o <;> rfl, trivial, List.nodup_nil, fun x hx => by simp at hx⟩
theorem setF_ok {k : Core} (h : k.ok) (o : Bool) {w : Int} (hw : I32 w) : (k.setF o w).ok := by
  unfold Core.setF; cases o <;> (constructor <;> first | exact hw | exact h.a | exact h.b | exact h.c | exact h.iptr | exact h.wptr | exact h.pri | exact h.f0 | exact h.f1 | exact h.b0 | exact h.b1 | exact h.t0 | exact h.t1 | exact h.k0 | exact h.k1 | exact h.ticks | exact h.slice | exact h.sa | exact h.sb | exact h.sc | exact h.siptr | exact h.swptr | exact h.sslice)
theorem setB_ok {k : Core} (h : k.ok) (o : Bool) {w : Int} (hw : I32 w) : (k.setB o w).ok := by
  unfold Core.setB; cases o <;> (constructor <;> first | exact hw | exact h.a | exact h.b | exact h.c | exact h.iptr | exact h.wptr | exact h.pri | exact h.f0 | exact h.f1 | exact h.b0 | exact h.b1 | exact h.t0 | exact h.t1 | exact h.k0 | exact h.k1 | exact h.ticks | exact h.slice | exact h.sa | exact h.sb | exact h.sc | exact h.siptr | exact h.swptr | exact h.sslice)
theorem appK_ok {k : Core} {o : Bool} {Q : List Nat} {i : Nat} (h : k.ok) (hi : i < 50) : (appK k o Q i).ok := by
  cases Q with
  | nil => exact setB_ok (setF_ok h o (spc_I32 hi)) o (spc_I32 hi)
  | cons a t => exact setB_ok h o (spc_I32 hi)
set_option maxHeartbeats 4000000 in
theorem SchedOrder_0 (bs : List Int) (cap : Nat) (hb : ∀ x ∈ bs, 0 ≤ x ∧ x < 256) (_hc : bs.length ≤ cap) (hn : bs.length ≤ 40) : Con Try.prog f_l29_SchedOrder [.s (.sl 0 0 bs.length cap), .s (.int .i64 0)] [.view (bytesI bs)] (.ret (.t (.s (.bool true))) [.view (bytesI bs)]) := by
  intro K hK
  refine enter fn_l29_SchedOrder rfl nt_l29_SchedOrder rfl rfl (fun φ w0 β0 F => ?_)
  refine c_run tt_ok ctOr_ok k_l29_SchedOrder [100033] 90 (by kernel_rfl) ?_
  refine ⟨.t (.s (.bool false)), fun β => told_bl (by simp; omega), rfl, ?_⟩
  refine ⟨fun h => absurd h (by decide), fun _ => ⟨fun _ => ⟨50, ⟨by decide, by decide, by decide, by decide⟩, ?_⟩, fun h => absurd h (by decide)⟩⟩
  show WpC _ _ _ _ _
  refine WpC.into (nilSlot 8 21 1 rfl) ?_
  refine c_loop (α := Nat × List Nat × Core × Ram × Nat) (fun x => x.1 ≤ bs.length ∧ x.2.1.length ≤ x.1 ∧ x.2.1.length ≤ x.2.2.2.2 ∧ x.2.2.1.ok ∧ x.2.2.2.1.l.length = 2048 ∧ QI x.2.2.1 x.2.2.2.1 false x.2.1) (fun x => bs.length - x.1)
    (fun x => [(0, .t (.s (.sl 0 0 bs.length cap)), none), (1, .t (.s (.int .i64 0)), none), (5, .t (.s (.loc 1 0)), none), (7, .t (.s (.loc 3 0)), none), (8, .t (.s (.sl 5 0 x.2.1.length x.2.2.2.2)), none), (9, .t (.s (.sl 4 0 50 50)), none), (10, .t (.s (.int .i64 (x.1 : Int))), none)])
    (fun x => [.view (bytesI bs), .blk 52 [.sl 2 0 x.2.2.2.1.l.length x.2.2.2.1.l.length], mOwn x.2.2.2.1.l, .blk 32 x.2.2.1.sv, .own 4 1 50 (usedV x.2.1), .own 21 1 x.2.2.2.2 (qV (x.2.1.map spc))]) (0, [], K0, Ram.zz, 0) ?_ ?_ ?_
  · exact ⟨Nat.zero_le _, Nat.le_refl _, Nat.le_refl _, K0_ok, zz_len, QI_zero false _⟩
  · exact into [0, 1, 2, 3, 4, 5] ⟨⟨_, rfl, rfl⟩, ⟨_, rfl, rfl⟩, ⟨_, rfl, rfl⟩, ⟨_, rfl, rfl⟩, ⟨_, rfl, rfl⟩, ⟨_, rfl, rfl⟩, ⟨_, rfl, rfl⟩, trivial⟩ ⟨_, rfl, rfl⟩ rfl rfl rfl rfl
  rintro ⟨i, L, k, m, c⟩ ⟨hi, hL, hLc, hok, hl, hQ⟩
  simp only at hi hL hLc hok hl hQ
  dsimp only
  refine c_run' tt_ok ctOr_ok k_l29_SchedOrder [100052, 100088, 100093] 90 (by kernel_rfl) (by kernel_rfl) ?_
  refine ⟨fun h1 => ?_, fun h1 => ?_⟩
  · have hlt : i < bs.length := by have := of_decide_eq_true h1; omega
    have hx := hb (bs.getD i 0) (by rw [List.getD_eq_getElem?_getD, List.getElem?_eq_getElem hlt]; exact List.getElem_mem hlt)
    obtain ⟨x, hxe⟩ : ∃ x, bs.getD i 0 = x := ⟨_, rfl⟩
    have hbx := bytesI_at hlt
    rw [hxe] at hx hbx
    obtain ⟨j, hj, hj50⟩ : ∃ j : Nat, IntKind.i64.wrap (x.tmod 50) = (j : Int) ∧ j < 50 := by
      refine ⟨(x % 50).toNat, ?_, by omega⟩
      rw [Int.tmod_eq_emod_of_nonneg hx.1, wrap64 (by omega) (by omega)]
      omega
    refine ⟨i, ⟨rfl, hlt, by rw [bytesI_length]; simp only [Nat.zero_add, Nat.mul_one]; omega⟩, .int .u8 x, rfl, by show (bytesI bs)[0 + i * 1]? = _; rw [Nat.zero_add, Nat.mul_one]; exact hbx, ?_⟩
    refine ⟨.t (.s (.int .i64 (j : Int))), fun β => told_i hj, rfl, ?_⟩
    refine ⟨j, ⟨rfl, hj50, by rw [usedV_len]; simp only [Nat.zero_add, Nat.mul_one]; omega⟩, .bool (decide (j ∈ L)), rfl, by show (usedV L)[0 + j * 1]? = _; rw [Nat.zero_add, Nat.mul_one]; exact usedV_at hj50, ?_⟩
    refine ⟨fun h2 => ?_, fun h2 => ?_⟩
    · exact e_again (i + 1, L, k, m, c) ⟨by show i + 1 ≤ _; omega, by show L.length ≤ i + 1; omega, hLc, hok, hl, hQ⟩ (by show bs.length - (i + 1) < bs.length - i; omega) (into [0, 1, 2, 3, 4, 5] ⟨⟨_, rfl, rfl⟩, ⟨_, rfl, rfl⟩, ⟨_, rfl, rfl⟩, ⟨_, rfl, rfl⟩, ⟨_, rfl, rfl⟩, ⟨_, rfl, rfl⟩, ⟨_, rfl, fvi (wrapSucc (by omega))⟩, trivial⟩ ⟨_, rfl, rfl⟩ rfl rfl rfl rfl)
    · have hni : j ∉ L := of_decide_eq_false h2
      refine ⟨j, ⟨rfl, hj50, by rw [usedV_len]; simp only [Nat.zero_add, Nat.mul_one]; omega⟩, ?_⟩
      refine ⟨by show 0 + j * (0 + 1) + 1 ≤ _; rw [usedV_len]; omega, ?_⟩
      obtain ⟨hA, hQ', hl'⟩ := app_law (o := false) hl hQ hj50 hni
      obtain ⟨k', hk'⟩ : ∃ k', appK k false L j = k' := ⟨_, rfl⟩
      obtain ⟨m', hm'⟩ : ∃ m', appM m L j = m' := ⟨_, rfl⟩
      have hok' : k'.ok := by rw [← hk']; exact appK_ok hok hj50
      rw [hk', hm'] at hA hQ'
      rw [hm'] at hl'
      have hd : IntKind.i32.wrap (spc j + IntKind.i32.wrap 0) = spc j + bif false then 1 else 0 := by
        simp only [IntKind.wrap_i32, cond_false]; unfold spc; omega
      have hA' : appR k m (IntKind.i32.wrap (spc j + IntKind.i32.wrap 0)) = (k', 0, m') := by rw [hd]; exact hA
      have hdI : I32 (IntKind.i32.wrap (spc j + IntKind.i32.wrap 0)) := I32_wrap _
      have hU := usedV_set hj50 (L := L)
      show WpC _ _ _ _ _
      refine c_merge [(0, .t (.s (.sl 0 0 bs.length cap)), none), (1, .t (.s (.int .i64 0)), none), (5, .t (.s (.loc 1 0)), none), (7, .t (.s (.loc 3 0)), none), (8, .t (.s (.sl 5 0 L.length c)), none), (9, .t (.s (.sl 4 0 50 50)), none), (10, .t (.s (.int .i64 (i : Int))), none), (11, .t (.s (.int .i64 (j : Int))), none), (12, .t (.s (.loc 6 0)), none), (13, .t (.s (.int .i64 0)), none)]
        [.view (bytesI bs), .blk 52 [.sl 2 0 m'.l.length m'.l.length], mOwn m'.l, .blk 32 k.sv, .own 4 1 50 (usedV (L ++ [j])), .own 21 1 c (qV (L.map spc)), .blk 32 k'.sv] (fun key => ?ways) ?cont
      case ways =>
        refine c_waysH tt_ok ctOr_ok k_l29_SchedOrder [3] rfl rfl rfl ?_
        repeat' (first | exact trivial | exact ⟨rfl, trivial⟩ | (refine Exists.intro j ?_; refine And.intro ⟨rfl, hj50⟩ ?_) | (refine Exists.intro (m, k', 0, m') ?_; refine And.intro ⟨rfl, rfl, rfl, rfl, ⟨hok, hdI⟩, hA'⟩ ?_) | (refine And.intro ?_ ?_) | (refine fun _ => ?_))
        all_goals
          refine WpE.into ?_ key
          exact into [0, 1, 2, 3, 4, 5, 6] ⟨⟨_, rfl, rfl⟩, ⟨_, rfl, rfl⟩, ⟨_, rfl, rfl⟩, ⟨_, rfl, rfl⟩, ⟨_, rfl, rfl⟩, ⟨_, rfl, rfl⟩, ⟨_, rfl, rfl⟩, ⟨_, rfl, rfl⟩, ⟨_, rfl, rfl⟩, ⟨_, rfl, rfl⟩, trivial⟩ ⟨_, rfl, by rw [← hU]; rfl⟩ rfl rfl rfl rfl
      refine e_run tt_ok ctOr_ok k_l29_SchedOrder [] 90 (by kernel_rfl) ?_
      refine ⟨fun h => absurd h (by decide), fun _ => ⟨j, ⟨rfl, hj50⟩, ?_⟩⟩
      refine ⟨⟨rfl, by rw [qV_len, List.length_map, Nat.mul_one], Nat.le_refl _, fun u hu => ?_, by simp only [maxLen]; omega, by omega⟩, fun c1 hc1 _ => ?_⟩
      · rw [List.mem_singleton.1 (List.mem_of_mem_drop (List.mem_of_mem_take hu))]; rfl
      refine e_again (i + 1, L ++ [j], k', m', c1) ⟨by show i + 1 ≤ _; omega, by show (L ++ [j]).length ≤ i + 1; rw [List.length_append, List.length_singleton]; omega, by show (L ++ [j]).length ≤ c1; rw [List.length_append, List.length_singleton]; simpa using hc1, hok', hl', hQ'⟩ (by show bs.length - (i + 1) < bs.length - i; omega)
        (into [0, 1, 2, 3, 4, 8] ⟨⟨_, rfl, rfl⟩, ⟨_, rfl, rfl⟩, ⟨_, rfl, rfl⟩, ⟨_, rfl, rfl⟩, ⟨_, rfl, ?_⟩, ⟨_, rfl, rfl⟩, ⟨_, rfl, fvi (wrapSucc (by omega))⟩, trivial⟩ ⟨_, rfl, ?_⟩ rfl rfl rfl rfl)
      · dsimp only; rw [show (L ++ [j]).length = L.length + 1 by simp]; rfl
      · dsimp only; rw [List.map_append, qV_app]; rfl
  · have hz : i = bs.length := by have := of_decide_eq_false h1; omega
    subst hz
    have hlen : (L.map spc).length = L.length := List.length_map ..
    refine ⟨(m, L.map spc, 0), ⟨rfl, rfl, rfl, rfl, ⟨hok, by decide, by decide⟩, que_law (o := false) hl hQ (by omega)⟩, fun cq hcq => ?_⟩
    have hseg : ∀ n, n = L.length → seg (qV (L.map spc)) 0 (n * 1) = qV (L.map spc) := fun n hn' => by
      rw [hn', Nat.mul_one, ← hlen, ← qV_len]; simp [seg]
    refine ⟨.t (.s (.bool false)), fun β => told_bl rfl, rfl, ?_⟩
    refine ⟨fun _ => ?_, fun h => absurd h (by decide)⟩
    refine ⟨(L.map spc, L.map spc), ⟨hseg _ hlen, rfl, hseg _ rfl, hlen.symm, by simp only; omega⟩, ?_⟩
    refine ⟨.t (.s (.bool false)), fun β => told_bl (by simp), rfl, ?_⟩
    refine ⟨fun h => absurd h (by decide), fun _ => ?_⟩
    show WpC _ _ _ _ _
    refine c_loop (α := Nat × Core) (fun x => x.1 ≤ L.length ∧ x.2.ok ∧ QI x.2 m false (L.drop x.1)) (fun x => L.length - x.1)
      (fun x => [(1, .t (.s (.int .i64 0)), none), (5, .t (.s (.loc 1 0)), none), (7, .t (.s (.loc 3 0)), none), (8, .t (.s (.sl 4 0 L.length c)), none), (16, .t (.s (.int .i64 (x.1 : Int))), none)])
      (fun x => [.view (bytesI bs), .blk 52 [.sl 2 0 m.l.length m.l.length], mOwn m.l, .blk 32 x.2.sv, .own 21 1 c (qV (L.map spc))]) (0, k) ⟨Nat.zero_le _, hok, hQ⟩ ?_ ?_
    · exact into [0, 1, 2, 3, 5] ⟨⟨_, rfl, rfl⟩, ⟨_, rfl, rfl⟩, ⟨_, rfl, rfl⟩, ⟨_, rfl, rfl⟩, ⟨_, rfl, rfl⟩, trivial⟩ ⟨_, rfl, rfl⟩ rfl rfl rfl rfl
    rintro ⟨i, k⟩ ⟨hi, hok, hQ⟩
    simp only at hi hok hQ
    dsimp only
    refine c_run' tt_ok ctOr_ok k_l29_SchedOrder [100117, 100135] 90 (by kernel_rfl) (by kernel_rfl) ?_
    refine ⟨fun h1 => ?_, fun h1 => ?_⟩
    · have hlt : i < L.length := by have := of_decide_eq_true h1; omega
      obtain ⟨a, ha⟩ : ∃ a, L[i]? = some a := ⟨_, List.getElem?_eq_getElem hlt⟩
      have hd : L.drop i = a :: L.drop (i + 1) := by
        obtain ⟨h, rfl⟩ := List.getElem?_eq_some_iff.1 ha
        exact List.drop_eq_getElem_cons h
      rw [hd] at hQ
      obtain ⟨hT, hQ'⟩ := tak_law hl hQ
      have ha50 := hQ.lt a (by simp)
      obtain ⟨k', hk'⟩ : ∃ k', takK k false (L.drop (i + 1)) = k' := ⟨_, rfl⟩
      have hok' : k'.ok := by have := (takR_ok (m := m) (p := pO false) hok).1; rw [hT] at this; rw [← hk']; exact this
      rw [hk'] at hT hQ'
      refine ⟨(m, k', spc a, 0), ⟨rfl, rfl, rfl, rfl, ⟨hok, by decide, by decide⟩, hT⟩, ?_⟩
      refine ⟨i, fun _ => ⟨rfl, hlt, by rw [qV_len, List.length_map]; simp only [Nat.zero_add, Nat.mul_one]; omega⟩, .int .i32 (spc a), rfl, fun _ => (by show (qV (L.map spc))[0 + i * 1]? = _; rw [Nat.zero_add, Nat.mul_one]; exact qV_at (by rw [List.getElem?_map, ha]; rfl)), ?_⟩
      refine ⟨.t (.s (.bool false)), fun β => told_bl (by simp), rfl, ?_⟩
      refine ⟨fun h => absurd h (by decide), fun _ => ?_⟩
      exact e_again (i + 1, k') ⟨by show i + 1 ≤ _; omega, hok', hQ'⟩ (by show L.length - (i + 1) < L.length - i; omega) (into [0, 1, 2, 3, 4] ⟨⟨_, rfl, rfl⟩, ⟨_, rfl, rfl⟩, ⟨_, rfl, rfl⟩, ⟨_, rfl, rfl⟩, ⟨_, rfl, fvi (wrapSucc (by omega))⟩, trivial⟩ ⟨_, rfl, rfl⟩ rfl rfl rfl rfl)
    · have hz : i = L.length := by have := of_decide_eq_false h1; omega
      subst hz
      rw [List.drop_length] at hQ
      refine ⟨(m, .zero, 0, 6), ⟨rfl, rfl, rfl, rfl, ⟨hok, by decide, by decide⟩, tak_none hQ⟩, ?_⟩
      have hf : k.f0 = NP := hQ.f
      refine ⟨.t (.s (.bool true)), fun β => told_bl (by show (bif (6 : Int) == 6 then k.f0 == -2147483648 else false) = true; rw [hf]; rfl), rfl, ?_⟩
      refine ⟨fun _ => ?_, fun h => absurd h (by decide)⟩
      exact fin_k tt_ok (rs := rs_l29_SchedOrder) rfl rfl hK [0] rfl rfl rfl rfl rfl rfl
set_option maxHeartbeats 4000000 in
theorem SchedOrder_1 (bs : List Int) (cap : Nat) (hb : ∀ x ∈ bs, 0 ≤ x ∧ x < 256) (_hc : bs.length ≤ cap) (hn : bs.length ≤ 40) : Con Try.prog f_l29_SchedOrder [.s (.sl 0 0 bs.length cap), .s (.int .i64 1)] [.view (bytesI bs)] (.ret (.t (.s (.bool true))) [.view (bytesI bs)]) := by
  intro K hK
  refine enter fn_l29_SchedOrder rfl nt_l29_SchedOrder rfl rfl (fun φ w0 β0 F => ?_)
  refine c_run tt_ok ctOr_ok k_l29_SchedOrder [100033] 90 (by kernel_rfl) ?_
  refine ⟨.t (.s (.bool false)), fun β => told_bl (by simp; omega), rfl, ?_⟩
  refine ⟨fun h => absurd h (by decide), fun _ => ⟨fun _ => ⟨50, ⟨by decide, by decide, by decide, by decide⟩, ?_⟩, fun h => absurd h (by decide)⟩⟩
  show WpC _ _ _ _ _
  refine WpC.into (nilSlot 8 21 1 rfl) ?_
  refine c_loop (α := Nat × List Nat × Core × Ram × Nat) (fun x => x.1 ≤ bs.length ∧ x.2.1.length ≤ x.1 ∧ x.2.1.length ≤ x.2.2.2.2 ∧ x.2.2.1.ok ∧ x.2.2.2.1.l.length = 2048 ∧ QI x.2.2.1 x.2.2.2.1 true x.2.1) (fun x => bs.length - x.1)
    (fun x => [(0, .t (.s (.sl 0 0 bs.length cap)), none), (1, .t (.s (.int .i64 1)), none), (5, .t (.s (.loc 1 0)), none), (7, .t (.s (.loc 3 0)), none), (8, .t (.s (.sl 5 0 x.2.1.length x.2.2.2.2)), none), (9, .t (.s (.sl 4 0 50 50)), none), (10, .t (.s (.int .i64 (x.1 : Int))), none)])
    (fun x => [.view (bytesI bs), .blk 52 [.sl 2 0 x.2.2.2.1.l.length x.2.2.2.1.l.length], mOwn x.2.2.2.1.l, .blk 32 x.2.2.1.sv, .own 4 1 50 (usedV x.2.1), .own 21 1 x.2.2.2.2 (qV (x.2.1.map spc))]) (0, [], K0, Ram.zz, 0) ?_ ?_ ?_
  · exact ⟨Nat.zero_le _, Nat.le_refl _, Nat.le_refl _, K0_ok, zz_len, QI_zero true _⟩
  · exact into [0, 1, 2, 3, 4, 5] ⟨⟨_, rfl, rfl⟩, ⟨_, rfl, rfl⟩, ⟨_, rfl, rfl⟩, ⟨_, rfl, rfl⟩, ⟨_, rfl, rfl⟩, ⟨_, rfl, rfl⟩, ⟨_, rfl, rfl⟩, trivial⟩ ⟨_, rfl, rfl⟩ rfl rfl rfl rfl
  rintro ⟨i, L, k, m, c⟩ ⟨hi, hL, hLc, hok, hl, hQ⟩
  simp only at hi hL hLc hok hl hQ
  dsimp only
  refine c_run' tt_ok ctOr_ok k_l29_SchedOrder [100052, 100088, 100093] 90 (by kernel_rfl) (by kernel_rfl) ?_
  refine ⟨fun h1 => ?_, fun h1 => ?_⟩
  · have hlt : i < bs.length := by have := of_decide_eq_true h1; omega
    have hx := hb (bs.getD i 0) (by rw [List.getD_eq_getElem?_getD, List.getElem?_eq_getElem hlt]; exact List.getElem_mem hlt)
    obtain ⟨x, hxe⟩ : ∃ x, bs.getD i 0 = x := ⟨_, rfl⟩
    have hbx := bytesI_at hlt
    rw [hxe] at hx hbx
    obtain ⟨j, hj, hj50⟩ : ∃ j : Nat, IntKind.i64.wrap (x.tmod 50) = (j : Int) ∧ j < 50 := by
      refine ⟨(x % 50).toNat, ?_, by omega⟩
      rw [Int.tmod_eq_emod_of_nonneg hx.1, wrap64 (by omega) (by omega)]
      omega
    refine ⟨i, ⟨rfl, hlt, by rw [bytesI_length]; simp only [Nat.zero_add, Nat.mul_one]; omega⟩, .int .u8 x, rfl, by show (bytesI bs)[0 + i * 1]? = _; rw [Nat.zero_add, Nat.mul_one]; exact hbx, ?_⟩
    refine ⟨.t (.s (.int .i64 (j : Int))), fun β => told_i hj, rfl, ?_⟩
    refine ⟨j, ⟨rfl, hj50, by rw [usedV_len]; simp only [Nat.zero_add, Nat.mul_one]; omega⟩, .bool (decide (j ∈ L)), rfl, by show (usedV L)[0 + j * 1]? = _; rw [Nat.zero_add, Nat.mul_one]; exact usedV_at hj50, ?_⟩
    refine ⟨fun h2 => ?_, fun h2 => ?_⟩
    · exact e_again (i + 1, L, k, m, c) ⟨by show i + 1 ≤ _; omega, by show L.length ≤ i + 1; omega, hLc, hok, hl, hQ⟩ (by show bs.length - (i + 1) < bs.length - i; omega) (into [0, 1, 2, 3, 4, 5] ⟨⟨_, rfl, rfl⟩, ⟨_, rfl, rfl⟩, ⟨_, rfl, rfl⟩, ⟨_, rfl, rfl⟩, ⟨_, rfl, rfl⟩, ⟨_, rfl, rfl⟩, ⟨_, rfl, fvi (wrapSucc (by omega))⟩, trivial⟩ ⟨_, rfl, rfl⟩ rfl rfl rfl rfl)
    · have hni : j ∉ L := of_decide_eq_false h2
      refine ⟨j, ⟨rfl, hj50, by rw [usedV_len]; simp only [Nat.zero_add, Nat.mul_one]; omega⟩, ?_⟩
      refine ⟨by show 0 + j * (0 + 1) + 1 ≤ _; rw [usedV_len]; omega, ?_⟩
      obtain ⟨hA, hQ', hl'⟩ := app_law (o := true) hl hQ hj50 hni
      obtain ⟨k', hk'⟩ : ∃ k', appK k true L j = k' := ⟨_, rfl⟩
      obtain ⟨m', hm'⟩ : ∃ m', appM m L j = m' := ⟨_, rfl⟩
      have hok' : k'.ok := by rw [← hk']; exact appK_ok hok hj50
      rw [hk', hm'] at hA hQ'
      rw [hm'] at hl'
      have hd : IntKind.i32.wrap (spc j + IntKind.i32.wrap 1) = spc j + bif true then 1 else 0 := by
        simp only [IntKind.wrap_i32, cond_true]; unfold spc; omega
      have hA' : appR k m (IntKind.i32.wrap (spc j + IntKind.i32.wrap 1)) = (k', 0, m') := by rw [hd]; exact hA
      have hdI : I32 (IntKind.i32.wrap (spc j + IntKind.i32.wrap 1)) := I32_wrap _
      have hU := usedV_set hj50 (L := L)
      show WpC _ _ _ _ _
      refine c_merge [(0, .t (.s (.sl 0 0 bs.length cap)), none), (1, .t (.s (.int .i64 1)), none), (5, .t (.s (.loc 1 0)), none), (7, .t (.s (.loc 3 0)), none), (8, .t (.s (.sl 5 0 L.length c)), none), (9, .t (.s (.sl 4 0 50 50)), none), (10, .t (.s (.int .i64 (i : Int))), none), (11, .t (.s (.int .i64 (j : Int))), none), (12, .t (.s (.loc 6 0)), none), (13, .t (.s (.int .i64 0)), none)]
        [.view (bytesI bs), .blk 52 [.sl 2 0 m'.l.length m'.l.length], mOwn m'.l, .blk 32 k.sv, .own 4 1 50 (usedV (L ++ [j])), .own 21 1 c (qV (L.map spc)), .blk 32 k'.sv] (fun key => ?ways) ?cont
      case ways =>
        refine c_waysH tt_ok ctOr_ok k_l29_SchedOrder [3] rfl rfl rfl ?_
        repeat' (first | exact trivial | exact ⟨rfl, trivial⟩ | (refine Exists.intro j ?_; refine And.intro ⟨rfl, hj50⟩ ?_) | (refine Exists.intro (m, k', 0, m') ?_; refine And.intro ⟨rfl, rfl, rfl, rfl, ⟨hok, hdI⟩, hA'⟩ ?_) | (refine And.intro ?_ ?_) | (refine fun _ => ?_))
        all_goals
          refine WpE.into ?_ key
          exact into [0, 1, 2, 3, 4, 5, 6] ⟨⟨_, rfl, rfl⟩, ⟨_, rfl, rfl⟩, ⟨_, rfl, rfl⟩, ⟨_, rfl, rfl⟩, ⟨_, rfl, rfl⟩, ⟨_, rfl, rfl⟩, ⟨_, rfl, rfl⟩, ⟨_, rfl, rfl⟩, ⟨_, rfl, rfl⟩, ⟨_, rfl, rfl⟩, trivial⟩ ⟨_, rfl, by rw [← hU]; rfl⟩ rfl rfl rfl rfl
      refine e_run tt_ok ctOr_ok k_l29_SchedOrder [] 90 (by kernel_rfl) ?_
      refine ⟨fun h => absurd h (by decide), fun _ => ⟨j, ⟨rfl, hj50⟩, ?_⟩⟩
      refine ⟨⟨rfl, by rw [qV_len, List.length_map, Nat.mul_one], Nat.le_refl _, fun u hu => ?_, by simp only [maxLen]; omega, by omega⟩, fun c1 hc1 _ => ?_⟩
      · rw [List.mem_singleton.1 (List.mem_of_mem_drop (List.mem_of_mem_take hu))]; rfl
      refine e_again (i + 1, L ++ [j], k', m', c1) ⟨by show i + 1 ≤ _; omega, by show (L ++ [j]).length ≤ i + 1; rw [List.length_append, List.length_singleton]; omega, by show (L ++ [j]).length ≤ c1; rw [List.length_append, List.length_singleton]; simpa using hc1, hok', hl', hQ'⟩ (by show bs.length - (i + 1) < bs.length - i; omega)
        (into [0, 1, 2, 3, 4, 8] ⟨⟨_, rfl, rfl⟩, ⟨_, rfl, rfl⟩, ⟨_, rfl, rfl⟩, ⟨_, rfl, rfl⟩, ⟨_, rfl, ?_⟩, ⟨_, rfl, rfl⟩, ⟨_, rfl, fvi (wrapSucc (by omega))⟩, trivial⟩ ⟨_, rfl, ?_⟩ rfl rfl rfl rfl)
      · dsimp only; rw [show (L ++ [j]).length = L.length + 1 by simp]; rfl
      · dsimp only; rw [List.map_append, qV_app]; rfl
  · have hz : i = bs.length := by have := of_decide_eq_false h1; omega
    subst hz
    have hlen : (L.map spc).length = L.length := List.length_map ..
    refine ⟨(m, L.map spc, 0), ⟨rfl, rfl, rfl, rfl, ⟨hok, by decide, by decide⟩, que_law (o := true) hl hQ (by omega)⟩, fun cq hcq => ?_⟩
    have hseg : ∀ n, n = L.length → seg (qV (L.map spc)) 0 (n * 1) = qV (L.map spc) := fun n hn' => by
      rw [hn', Nat.mul_one, ← hlen, ← qV_len]; simp [seg]
    refine ⟨.t (.s (.bool false)), fun β => told_bl rfl, rfl, ?_⟩
    refine ⟨fun _ => ?_, fun h => absurd h (by decide)⟩
    refine ⟨(L.map spc, L.map spc), ⟨hseg _ hlen, rfl, hseg _ rfl, hlen.symm, by simp only; omega⟩, ?_⟩
    refine ⟨.t (.s (.bool false)), fun β => told_bl (by simp), rfl, ?_⟩
    refine ⟨fun h => absurd h (by decide), fun _ => ?_⟩
    show WpC _ _ _ _ _
    refine c_loop (α := Nat × Core) (fun x => x.1 ≤ L.length ∧ x.2.ok ∧ QI x.2 m true (L.drop x.1)) (fun x => L.length - x.1)
      (fun x => [(1, .t (.s (.int .i64 1)), none), (5, .t (.s (.loc 1 0)), none), (7, .t (.s (.loc 3 0)), none), (8, .t (.s (.sl 4 0 L.length c)), none), (16, .t (.s (.int .i64 (x.1 : Int))), none)])
      (fun x => [.view (bytesI bs), .blk 52 [.sl 2 0 m.l.length m.l.length], mOwn m.l, .blk 32 x.2.sv, .own 21 1 c (qV (L.map spc))]) (0, k) ⟨Nat.zero_le _, hok, hQ⟩ ?_ ?_
    · exact into [0, 1, 2, 3, 5] ⟨⟨_, rfl, rfl⟩, ⟨_, rfl, rfl⟩, ⟨_, rfl, rfl⟩, ⟨_, rfl, rfl⟩, ⟨_, rfl, rfl⟩, trivial⟩ ⟨_, rfl, rfl⟩ rfl rfl rfl rfl
    rintro ⟨i, k⟩ ⟨hi, hok, hQ⟩
    simp only at hi hok hQ
    dsimp only
    refine c_run' tt_ok ctOr_ok k_l29_SchedOrder [100117, 100135] 90 (by kernel_rfl) (by kernel_rfl) ?_
    refine ⟨fun h1 => ?_, fun h1 => ?_⟩
    · have hlt : i < L.length := by have := of_decide_eq_true h1; omega
      obtain ⟨a, ha⟩ : ∃ a, L[i]? = some a := ⟨_, List.getElem?_eq_getElem hlt⟩
      have hd : L.drop i = a :: L.drop (i + 1) := by
        obtain ⟨h, rfl⟩ := List.getElem?_eq_some_iff.1 ha
        exact List.drop_eq_getElem_cons h
      rw [hd] at hQ
      obtain ⟨hT, hQ'⟩ := tak_law hl hQ
      have ha50 := hQ.lt a (by simp)
      obtain ⟨k', hk'⟩ : ∃ k', takK k true (L.drop (i + 1)) = k' := ⟨_, rfl⟩
      have hok' : k'.ok := by have := (takR_ok (m := m) (p := pO true) hok).1; rw [hT] at this; rw [← hk']; exact this
      rw [hk'] at hT hQ'
      refine ⟨(m, k', spc a, 0), ⟨rfl, rfl, rfl, rfl, ⟨hok, by decide, by decide⟩, hT⟩, ?_⟩
      refine ⟨i, fun _ => ⟨rfl, hlt, by rw [qV_len, List.length_map]; simp only [Nat.zero_add, Nat.mul_one]; omega⟩, .int .i32 (spc a), rfl, fun _ => (by show (qV (L.map spc))[0 + i * 1]? = _; rw [Nat.zero_add, Nat.mul_one]; exact qV_at (by rw [List.getElem?_map, ha]; rfl)), ?_⟩
      refine ⟨.t (.s (.bool false)), fun β => told_bl (by simp), rfl, ?_⟩
      refine ⟨fun h => absurd h (by decide), fun _ => ?_⟩
      exact e_again (i + 1, k') ⟨by show i + 1 ≤ _; omega, hok', hQ'⟩ (by show L.length - (i + 1) < L.length - i; omega) (into [0, 1, 2, 3, 4] ⟨⟨_, rfl, rfl⟩, ⟨_, rfl, rfl⟩, ⟨_, rfl, rfl⟩, ⟨_, rfl, rfl⟩, ⟨_, rfl, fvi (wrapSucc (by omega))⟩, trivial⟩ ⟨_, rfl, rfl⟩ rfl rfl rfl rfl)
    · have hz : i = L.length := by have := of_decide_eq_false h1; omega
      subst hz
      rw [List.drop_length] at hQ
      refine ⟨(m, .zero, 0, 6), ⟨rfl, rfl, rfl, rfl, ⟨hok, by decide, by decide⟩, tak_none hQ⟩, ?_⟩
      have hf : k.f1 = NP := hQ.f
      refine ⟨.t (.s (.bool true)), fun β => told_bl (by show (bif (6 : Int) == 6 then k.f1 == -2147483648 else false) = true; rw [hf]; rfl), rfl, ?_⟩
      refine ⟨fun _ => ?_, fun h => absurd h (by decide)⟩
      exact fin_k tt_ok (rs := rs_l29_SchedOrder) rfl rfl hK [0] rfl rfl rfl rfl rfl rfl
set_option maxHeartbeats 1000000 in
theorem SchedOrder_c (bs : List Int) (cap : Nat) (p : Int) (hb : ∀ x ∈ bs, 0 ≤ x ∧ x < 256) (hc : bs.length ≤ cap) : Con Try.prog f_l29_SchedOrder [.s (.sl 0 0 bs.length cap), .s (.int .i64 p)] [.view (bytesI bs)] (.ret (.t (.s (.bool true))) [.view (bytesI bs)]) := by
  by_cases h : (p = 0 ∨ p = 1) ∧ bs.length ≤ 40
  · obtain ⟨h | h, hn⟩ := h
    · subst h; exact SchedOrder_0 bs cap hb hc hn
    · subst h; exact SchedOrder_1 bs cap hb hc hn
  · intro K hK
    refine enter fn_l29_SchedOrder rfl nt_l29_SchedOrder rfl rfl (fun φ w0 β0 F => ?_)
    refine c_run tt_ok ctOr_ok k_l29_SchedOrder [100033] 90 (by kernel_rfl) ?_
    refine ⟨.t (.s (.bool true)), fun β => told_bl ?_, rfl, ?_⟩
    · show (bif (bif p != 0 then p != 1 else false) then true else decide ((bs.length : Int) > 40)) = true
      by_cases h0 : p = 0
      · subst h0; simp at h ⊢; omega
      · by_cases h1 : p = 1
        · subst h1; simp at h ⊢; omega
        · simp [h0, h1]
    refine ⟨fun _ => ?_, fun h => absurd h (by decide)⟩
    exact fin_k tt_ok (rs := rs_l29_SchedOrder) rfl rfl hK [0] rfl rfl rfl rfl rfl rfl
end Go.Proofs
