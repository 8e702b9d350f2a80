/- Rows of records; what a deed, settled, does. -/
import Derived.Test.YtckbmpoomamenaaWalkH
import Derived.Test.YtckbmpoomamenaaSxC

namespace Go.Proofs
open Go Go.Sx
set_option maxRecDepth 10000
section
variable {α : Type} {vs : α → List Value} {n : Nat}
theorem tab_row (hn : ∀ x, (vs x).length = n) {l : List α} {i : Nat} {g : α} (h : l[i]? = some g) : seg (l.map vs).flatten (0 + i * n) n = vs g := by
  rw [Nat.zero_add]
  induction l generalizing i with
  | nil => simp at h
  | cons x l ih =>
    cases i with
    | zero =>
      simp at h; subst h
      show (((x :: l).map vs).flatten.drop (0 * n)).take n = _
      rw [Nat.zero_mul, List.drop_zero]
      show (vs x ++ (l.map vs).flatten).take n = _
      rw [← hn x, List.take_left]
    | succ i =>
      rw [← ih (by simpa using h)]
      show ((vs x ++ (l.map vs).flatten).drop ((i + 1) * n)).take n = ((l.map vs).flatten.drop (i * n)).take n
      rw [show (i + 1) * n = (vs x).length + i * n by rw [hn]; rw [Nat.add_mul]; omega, ← List.drop_drop, List.drop_left]
theorem tab_len (hn : ∀ x, (vs x).length = n) (l : List α) : (l.map vs).flatten.length = l.length * n := by
  induction l with
  | nil => simp
  | cons x l ih => rw [List.map_cons, List.flatten_cons, List.length_append, ih, hn, List.length_cons, Nat.add_mul]; omega
theorem tab_cell (hn : ∀ x, (vs x).length = n) {l : List α} {i j : Nat} {g : α} (h : l[i]? = some g) (hj : j < n) {v : Value} (hv : (vs g)[j]? = some v) : (l.map vs).flatten[0 + i * n + j]? = some v := by
  have hr := tab_row hn h
  rw [← hr] at hv
  unfold seg at hv
  rw [List.getElem?_take_of_lt hj, List.getElem?_drop] at hv
  rw [← hv]
theorem tab_bound (hn : ∀ x, (vs x).length = n) {l : List α} {i : Nat} (h : i < l.length) : 0 + (i + 1) * n ≤ (l.map vs).flatten.length := by
  rw [tab_len hn, Nat.zero_add]; exact Nat.mul_le_mul_right n h
end
def stB (busy : Bool) (W : Nat) : Bool := bif busy then (bif W == 1 then true else W == 3) else false
def saB (busy : Bool) (W : Nat) : Bool := bif W == 0 then true else bif W == 5 then busy else false
theorem count_mem {Q : List Nat} (h : Q.Nodup) (x : Nat) : Q.count x = if x ∈ Q then 1 else 0 := by
  by_cases hx : x ∈ Q
  · rw [if_pos hx]
    have h1 := List.nodup_iff_count.1 h x
    have h2 := List.count_pos_iff.2 hx
    omega
  · rw [if_neg hx]; exact List.count_eq_zero.2 hx
theorem dec_law (A B C D : Prop) [Decidable A] [Decidable B] [Decidable C] [Decidable D] : decide ((A ∧ B) ∨ (D ∧ ¬ C)) = (bif (bif decide A then decide B else false) then true else bif decide C then false else decide D) := by
  by_cases hA : A <;> by_cases hB : B <;> by_cases hC : C <;> by_cases hD : D <;> simp [hA, hB, hC, hD]
theorem once_law {k : Core} {m : Ram} {r : Option Nat} {lo : Bool} {s : Option Nat} {H L : List Nat} (h : Half k m r lo s H L) (hc : Calm r lo s H L) (W w : Nat) (po : Bool) (hW : W < 6) (hw : w < 20) :
    ∃ (k' : Core) (m' : Ram) (r' : Option Nat) (lo' : Bool) (s' : Option Nat) (H' L' : List Nat), deedS k m W w po ((allQ r s H L).count w) = (k', m') ∧ Half k' m' r' lo' s' H' L' ∧ Calm r' lo' s' H' L' ∧
      ∀ x, x < 20 → decide (x ∈ allQ r' s' H' L') = (bif (bif saB k.busy W then w == x else false) then true else bif (bif stB k.busy W then spc x == k.wptr else false) then false else decide (x ∈ allQ r s H L)) := by
  have hcm := count_mem h.nd w
  have hbr : k.busy = r.isSome := by
    cases r with
    | none => exact (h.idle rfl).1
    | some i => exact (h.run i rfl).1
  have hcz : ((allQ r s H L).count w == 0) = !decide (w ∈ allQ r s H L) := by
    rw [hcm]
    by_cases hx : w ∈ allQ r s H L <;> simp [hx]
  by_cases hg : noDeed W k.busy ((allQ r s H L).count w) = true
  · refine ⟨k, m, r, lo, s, H, L, by unfold deedS; rw [hg]; rfl, h, hc, fun x hx => ?_⟩
    unfold noDeed at hg
    rw [hcz] at hg
    have hst : stB k.busy W = false := by
      unfold stB
      cases hb : k.busy with
      | false => rfl
      | true =>
        rw [hb] at hg
        by_cases h1 : W = 1
        · subst h1; simp at hg
        · by_cases h3 : W = 3
          · subst h3; simp at hg
          · simp [h1, h3]
    rw [hst, cond_false, cond_false]
    by_cases hwx : w = x
    · subst hwx
      by_cases hm : w ∈ allQ r s H L
      · simp [hm]
      · have hsa : saB k.busy W = false := by
          unfold saB
          by_cases h0 : W = 0
          · subst h0; simp [hm] at hg
          · by_cases h5 : W = 5
            · subst h5
              simp [hm] at hg
              simp [hg]
            · simp [h0, h5]
        rw [hsa]; simp
    · simp [hwx]
  · have hg' : noDeed W k.busy ((allQ r s H L).count w) = false := by simpa using hg
    have hr : W = 0 ∨ r ≠ none := by
      by_cases h0 : W = 0
      · exact .inl h0
      · refine .inr fun e => ?_
        unfold noDeed at hg'
        rw [hbr, e] at hg'
        have : decide (W > 0) = true := by simp; omega
        rw [this] at hg'
        simp at hg'
    have hn : W = 0 ∨ W = 5 → w ∉ allQ r s H L := by
      intro h05 hm
      unfold noDeed at hg'
      rw [hcz] at hg'
      rcases h05 with rfl | rfl <;> simp [hm] at hg'
    obtain ⟨k2, m2, r2, lo2, s2, H2, L2, hD, h2, hmem⟩ := deed_law h W w po hW hw hr hn
    obtain ⟨k3, r3, lo3, s3, H3, L3, hS, h3, hc3, hp⟩ := settle_law h2
    refine ⟨k3, m2, r3, lo3, s3, H3, L3, by unfold deedS; rw [hg', cond_false, hD]; dsimp only; rw [hS], h3, hc3, fun x hx => ?_⟩
    have e1 : (x ∈ allQ r3 s3 H3 L3) ↔ (((W = 0 ∨ W = 5) ∧ x = w) ∨ (x ∈ allQ r s H L ∧ ¬ ((W = 1 ∨ W = 3) ∧ r = some x))) := by rw [hp.mem_iff]; exact hmem x
    rw [decide_eq_decide.2 e1]
    have hsa : saB k.busy W = decide (W = 0 ∨ W = 5) := by
      unfold saB
      rw [hbr]
      rcases hr with rfl | hr
      · rfl
      · have : r.isSome = true := by cases r with | none => exact absurd rfl hr | some i => rfl
        rw [this]
        by_cases h0 : W = 0 <;> by_cases h5 : W = 5 <;> simp [h0, h5]
    have hst : (bif stB k.busy W then spc x == k.wptr else false) = decide ((W = 1 ∨ W = 3) ∧ r = some x) := by
      unfold stB
      cases r with
      | none => rw [hbr]; simp
      | some i =>
        rw [hbr, (h.run i rfl).2.1, spc_beq]
        by_cases hx : x = i
        · subst hx
          by_cases h1 : W = 1 <;> by_cases h3 : W = 3 <;> simp [h1, h3]
        · have hx' : i ≠ x := fun e => hx e.symm
          by_cases h1 : W = 1 <;> by_cases h3 : W = 3 <;> simp [h1, h3, hx, hx']
    rw [hsa, hst]
    have hwx : (w == x) = decide (x = w) := by rw [Bool.eq_iff_iff, beq_iff_eq, decide_eq_true_iff]; exact ⟨Eq.symm, Eq.symm⟩
    rw [hwx]
    exact dec_law _ _ _ _
end Go.Proofs

namespace Go.Proofs
open Go Go.Sx
set_option maxRecDepth 10000
structure Dd where
  a : Int
  b : Int
  c : Int
def Dd.vs (d : Dd) : List Value := [.int .u8 d.a, .int .u8 d.b, .int .u8 d.c]
def Dd.good (d : Dd) : Prop := (0 ≤ d.a ∧ d.a < 256) ∧ (0 ≤ d.b ∧ d.b < 256) ∧ (0 ≤ d.c ∧ d.c < 256)
theorem dd_len (d : Dd) : d.vs.length = 3 := rfl
def ddV (l : List Dd) : List Value := (l.map Dd.vs).flatten
theorem deed_c {k : Core} {m : Ram} {r : Option Nat} {lo : Bool} {s : Option Nat} {H L : List Nat} (h : Half k m r lo s H L) (a b c : Int) (W w : Nat) (po : Bool) (k' : Core) (m' : Ram) (hW : a.tmod 6 = (W : Int)) (hW6 : W < 6) (hw : IntKind.i64.wrap (b.tmod 20) = (w : Int)) (hw20 : w < 20) (hpo : c.tmod 2 = bif po then 1 else 0)
    (hx : deedS k m W w po ((allQ r s H L).count w) = (k', m')) : Con Try.prog f_l29_deed [.agg k.sv, .s (.loc 0 0), .agg [.int .u8 a, .int .u8 b, .int .u8 c]] [mBox m.l.length, mOwn m.l]
    (.ret (.tup [.agg k'.sv, .s (.bool true)]) [mBox m'.l.length, mOwn m'.l]) := by
  obtain rfl | rfl | rfl | rfl | rfl | rfl : W = 0 ∨ W = 1 ∨ W = 2 ∨ W = 3 ∨ W = 4 ∨ W = 5 := by omega
  · exact deed_0 h a b c w po k' m' hW hw hw20 hpo hx
  · exact deed_1 h a b c w po k' m' hW hw hw20 hpo hx
  · exact deed_2 h a b c w po k' m' hW hw hw20 hpo hx
  · exact deed_3 h a b c w po k' m' hW hw hw20 hpo hx
  · exact deed_4 h a b c w po k' m' hW hw hw20 hpo hx
  · exact deed_5 h a b c w po k' m' hW hw hw20 hpo hx
noncomputable abbrev eDeed : Ent := .st (conS (P := Try.prog) (f := f_l29_deed) fun cargs σ0 => match cargs, σ0 with
  | [.agg cs, .s (.loc 0 0), .agg [.int .u8 a, .int .u8 b, .int .u8 cc]], [.blk 52 [.sl 1 0 n n'], .own 5 1 c xs] => withCore cs fun k hk => some ⟨.ex (Ram × Core × Ram) fun p => .ask (n = p.1.l.length ∧ n' = p.1.l.length ∧ c = p.1.l.length ∧ xs = bytesI p.1.l ∧
        ∃ r lo s H L W w po, Half k p.1 r lo s H L ∧ a.tmod 6 = ((W : Nat) : Int) ∧ W < 6 ∧ IntKind.i64.wrap (b.tmod 20) = ((w : Nat) : Int) ∧ w < 20 ∧ (cc.tmod 2 = bif po then 1 else 0) ∧ deedS k p.1 W w po ((allQ r s H L).count w) = p.2)
      (.ret (.tup [.agg p.2.1.sv, .s (.bool true)]) [mBox p.2.2.l.length, mOwn p.2.2.l]), fun K h => by
      obtain ⟨⟨m, k', m'⟩, ⟨e1, e2, e3, e4, r, lo, s, H, L, W, w, po, h1, h2, h3, h4, h5, h6, h7⟩, h⟩ := h
      dsimp only at e1 e2 e3 e4 h1 h7 h
      subst e1; subst e2; subst e3; subst e4; subst hk
      exact deed_c h1 a b cc W w po k' m' h2 h3 h4 h5 h6 h7 K h⟩
  | _, _ => none)
def spI (v : Int) : Int := -2147483488 + 32 * v
theorem spI_nat (i : Nat) : spI (i : Int) = spc i := rfl
def spSpace : List TV → Option (Prop × FV)
  | [.s (.int .i64 v)] => some (0 ≤ v ∧ v < 50, .t (.s (.int .i32 (spI v))))
  | _ => none
theorem ceSpace : CEok Try.prog f_l29_space spSpace := ⟨cal_l29_space, fun args p v h hp => by
  unfold spSpace at h; split at h
  · rename_i v'
    cases h
    obtain ⟨i, rfl⟩ : ∃ i : Nat, v' = (i : Int) := ⟨v'.toNat, by omega⟩
    exact (space_c i (by omega)).pure
  · cases h⟩
noncomputable abbrev ctOn : CT := [(f_mem_New, eNew), (f_r29_Reset, eReset), (f_l29_deed, eDeed), (f_sched_Settled, eSettled), (f_l29_space, .pure spSpace), (f_l29_places, ePlaces), (f_l29_head, eHead)]
theorem ctOn_ok : CTok Try.prog ctOn := ⟨con_ok cal_mem_New _, con_ok cal_r29_Reset _, con_ok cal_l29_deed _, con_ok cal_sched_Settled _, ceSpace, con_ok cal_l29_places _, con_ok cal_l29_head _, trivial⟩
/-- The list 'there', new up to j. -/
def rowV (A A' : List Nat) (j : Nat) : List Value := (List.range 20).map fun x => .bool (decide (x ∈ if x < j then A' else A))
theorem rowV_len (A A' : List Nat) (j : Nat) : (rowV A A' j).length = 20 := by simp [rowV]
theorem rowV_at (A A' : List Nat) {j : Nat} (h : j < 20) : (rowV A A' j)[j]? = some (.bool (decide (j ∈ A))) := by
  unfold rowV; rw [List.getElem?_map, List.getElem?_range h]; simp
theorem rowV_next {A A' : List Nat} {j : Nat} (h : decide (j ∈ A') = decide (j ∈ A)) : rowV A A' (j + 1) = rowV A A' j := by
  unfold rowV
  apply List.map_congr_left
  intro x _
  by_cases hx : x < j
  · rw [if_pos hx, if_pos (by omega)]
  · rw [if_neg hx]
    by_cases hx2 : x < j + 1
    · have : x = j := by omega
      subst this
      rw [if_pos hx2, h]
    · rw [if_neg hx2]
theorem setV_bool (xs : List Value) {j : Nat} (h : j < xs.length) (v : Bool) : setV xs (0 + j * (0 + 1)) (List.map SV.cv [SV.bool v]) = xs.set j (.bool v) := by
  rw [show 0 + j * (0 + 1) = j by omega, List.set_eq_take_append_cons_drop, if_pos h]; simp [setV]; rfl
theorem rowV_set {A A' : List Nat} {j : Nat} (hj : j < 20) {xs : List Value} (hl : xs.length = 20) (hx : ∀ t, t ≠ j → xs[t]? = (rowV A A' j)[t]?) : xs.set j (.bool (decide (j ∈ A'))) = rowV A A' (j + 1) := by
  apply List.ext_getElem?
  intro t
  by_cases ht : t = j
  · subst ht
    rw [List.getElem?_set_self (by omega)]
    unfold rowV
    rw [List.getElem?_map, List.getElem?_range hj]; simp
  · rw [List.getElem?_set_ne (fun e => ht e.symm), hx t ht]
    unfold rowV
    rw [List.getElem?_map, List.getElem?_map]
    by_cases h20 : t < 20
    · rw [List.getElem?_range h20]
      show some (Value.bool (decide (t ∈ if t < j then A' else A))) = some (Value.bool (decide (t ∈ if t < j + 1 then A' else A)))
      by_cases hx : t < j
      · rw [if_pos hx, if_pos (by omega)]
      · rw [if_neg hx, if_neg (by omega)]
    · rw [List.getElem?_eq_none (by simp; omega)]; rfl
theorem cell_set {xs : List Value} {j : Nat} (h : j < xs.length) {v w : Value} (hw : v = w) : (xs.set j v)[0 + j * 1]? = some w := by
  rw [Nat.zero_add, Nat.mul_one, List.getElem?_set_self h, hw]
theorem rowV_full (A A' : List Nat) : rowV A A' 20 = rowV A' A' 0 := by
  unfold rowV
  apply List.map_congr_left
  intro x hx
  rw [if_pos (List.mem_range.1 hx), if_neg (by omega)]
theorem rowV_zero (A A' B : List Nat) : rowV A A' 0 = rowV A B 0 := by
  unfold rowV
  apply List.map_congr_left
  intro x hx
  rw [if_neg (by omega), if_neg (by omega)]
set_option maxHeartbeats 8000000 in
theorem SchedOnce_c (D : List Dd) (cap : Nat) (hD : ∀ d ∈ D, d.good) (hcap : D.length ≤ cap) (hm : cap ≤ maxLen) : Con Try.prog f_l29_SchedOnce [.s (.sl 0 0 D.length cap)] [.view (ddV D)] (.ret (.t (.s (.bool true))) [.view (ddV D)]) := by
  intro K hK
  have hm' : cap ≤ 9223372036854775807 := hm
  refine enter fn_l29_SchedOnce rfl nt_l29_SchedOnce rfl rfl (fun φ w0 β0 F => ?_)
  refine c_run tt_ok ctOn_ok k_l29_SchedOnce [] 90 (by kernel_rfl) ?_
  refine ⟨fun h40 => ?_, fun h40 => ?_⟩
  · exact fin_k tt_ok (rs := rs_l29_SchedOnce) rfl rfl hK [0] rfl rfl rfl rfl rfl rfl
  have hlen : D.length ≤ 40 := by
    have h1 : decide ((D.length : Int) > 40) = false := h40
    have := of_decide_eq_false h1
    omega
  refine ⟨fun _ => ⟨20, ⟨by decide, by decide, by decide, by decide⟩, ?_⟩, fun h => absurd h (by decide)⟩
  show WpC _ _ _ _ _
  refine c_loop (α := Nat × Core × Ram × List Nat) (fun x => x.1 ≤ D.length ∧ ∃ r lo s H L, Half x.2.1 x.2.2.1 r lo s H L ∧ Calm r lo s H L ∧ allQ r s H L = x.2.2.2) (fun x => D.length - x.1)
    (fun x => [(0, .t (.s (.sl 0 0 D.length cap)), none), (3, .t (.s (.loc 1 0)), none), (5, .t (.s (.loc 3 0)), none), (6, .t (.s (.sl 4 0 20 20)), none), (7, .t (.s (.int .i64 (x.1 : Int))), none)])
    (fun x => [.view (ddV D), .blk 52 [.sl 2 0 x.2.2.1.l.length x.2.2.1.l.length], mOwn x.2.2.1.l, .blk 32 x.2.1.sv, .own 4 1 20 (rowV x.2.2.2 x.2.2.2 0)]) (0, K0, Ram.zz, []) ?_ ?_ ?_
  · refine ⟨Nat.zero_le _, none, false, none, [], [], ⟨K0_ok, zz_len, rfl, rfl, by decide, by decide, fun _ e => (by cases e), fun _ => ⟨rfl, rfl⟩, fun _ e => (by cases e), fun _ => ⟨rfl, rfl⟩, QI_zero false _, QI_zero true _, List.nodup_nil, fun x hx => (by cases hx), fun _ _ e => (by cases e)⟩, .inr ⟨rfl, rfl, rfl, rfl⟩, rfl⟩
  · exact into [0, 1, 2, 3, 4] ⟨⟨_, rfl, rfl⟩, ⟨_, rfl, rfl⟩, ⟨_, rfl, rfl⟩, ⟨_, rfl, rfl⟩, ⟨_, rfl, rfl⟩, trivial⟩ ⟨_, rfl, rfl⟩ rfl rfl rfl rfl
  rintro ⟨i, k, m, A⟩ ⟨hi, r, lo, s, H, L, hH, hC, rfl⟩
  simp only at hi hH
  dsimp only
  refine c_run' tt_ok ctOn_ok k_l29_SchedOnce [100037, 100047, 100059] 90 (by kernel_rfl) (by kernel_rfl) ?_
  refine ⟨fun h1 => ?_, fun h1 => ?_⟩
  · have hlt : i < D.length := by have := of_decide_eq_true h1; omega
    obtain ⟨d, hd⟩ : ∃ d, D[i]? = some d := ⟨_, List.getElem?_eq_getElem hlt⟩
    obtain ⟨hga, hgb, hgc⟩ := hD d (List.mem_of_getElem? hd)
    have hbd := tab_bound dd_len (l := D) hlt
    have hc0 : (ddV D)[0 + i * 3 + 0]? = some (.int .u8 d.a) := tab_cell dd_len hd (by decide) rfl
    have hc1 : (ddV D)[0 + i * 3 + 1]? = some (.int .u8 d.b) := tab_cell dd_len hd (by decide) rfl
    have hrow := tab_row dd_len hd
    obtain ⟨W, hWd, hW6⟩ : ∃ W : Nat, d.a.tmod 6 = (W : Int) ∧ W < 6 := by
      refine ⟨(d.a % 6).toNat, ?_, by omega⟩
      rw [Int.tmod_eq_emod_of_nonneg hga.1]; omega
    obtain ⟨w, hwd, hw20, hwd2⟩ : ∃ w : Nat, IntKind.i64.wrap (d.b.tmod 20) = (w : Int) ∧ w < 20 ∧ d.b.tmod 20 = (w : Int) := by
      refine ⟨(d.b % 20).toNat, ?_, by omega, ?_⟩
      · rw [Int.tmod_eq_emod_of_nonneg hgb.1, wrap64 (by omega) (by omega)]; omega
      · rw [Int.tmod_eq_emod_of_nonneg hgb.1]; omega
    obtain ⟨po, hpo⟩ : ∃ po : Bool, d.c.tmod 2 = bif po then 1 else 0 := by
      rw [Int.tmod_eq_emod_of_nonneg hgc.1]
      rcases (show d.c % 2 = 0 ∨ d.c % 2 = 1 by omega) with e | e
      · exact ⟨false, e⟩
      · exact ⟨true, e⟩
    obtain ⟨k', m', r', lo', s', H', L', hS, hH', hC', hmem⟩ := once_law hH hC W w po hW6 hw20
    have hst := settled_law hH' hC'
    obtain ⟨A, hA⟩ : ∃ A, allQ r s H L = A := ⟨_, rfl⟩
    obtain ⟨A', hA'⟩ : ∃ A', allQ r' s' H' L' = A' := ⟨_, rfl⟩
    rw [hA, hA'] at hmem
    rw [hA]
    have hWn : ∀ j : Nat, ((W : Int) == (j : Int)) = (W == j) := fun j => by rw [Bool.eq_iff_iff, beq_iff_eq, beq_iff_eq]; omega
    refine ⟨i, ⟨rfl, hlt, hbd⟩, .int .u8 d.a, rfl, hc0, ?_⟩
    refine ⟨.t (.s (.int .u8 (W : Int))), fun β => told_i hWd, rfl, ?_⟩
    refine ⟨.t (.s (.bool (stB k.busy W))), fun β => told_bl (by unfold stB; rw [← hWn 1, ← hWn 3]; rfl), rfl, ?_⟩
    refine ⟨.t (.s (.bool (saB k.busy W))), fun β => told_bl (by unfold saB; rw [← hWn 0, ← hWn 5]; rfl), rfl, ?_⟩
    show WpC _ _ _ _ _
    refine c_merge [(0, .t (.s (.sl 0 0 D.length cap)), none), (3, .t (.s (.loc 1 0)), none), (5, .t (.s (.loc 3 0)), none), (6, .t (.s (.sl 4 0 20 20)), none), (7, .t (.s (.int .i64 (i : Int))), none), (9, .t (.s (.bool (stB k.busy W))), none), (10, .t (.s (.int .i32 k.wptr)), none), (11, .t (.s (.bool (saB k.busy W))), none), (12, .t (.s (.loc 5 0)), none), (13, .t (.s (.bool true)), none)]
      [.view (ddV D), .blk 52 [.sl 2 0 m'.l.length m'.l.length], mOwn m'.l, .blk 32 k.sv, .own 4 1 20 (rowV A A 0), .blk 32 k'.sv] (fun key => ?ways) ?cont
    case ways =>
      refine c_waysH tt_ok ctOn_ok k_l29_SchedOnce [0, 3] rfl rfl rfl ?_
      repeat' (first | exact trivial | exact ⟨rfl, rfl, trivial⟩ | (refine Exists.intro i ?_; refine And.intro ⟨rfl, hlt, hbd⟩ ?_) | (refine Exists.intro [.int .u8 d.a, .int .u8 d.b, .int .u8 d.c] ?_; refine And.intro rfl ?_; refine And.intro ⟨Nat.le_refl 3, hrow⟩ ?_) | (refine Exists.intro (m, k', m') ?_; refine And.intro ⟨rfl, rfl, rfl, rfl, r, lo, s, H, L, W, w, po, hH, hWd, hW6, hwd, hw20, hpo, hS⟩ ?_) | (refine And.intro ?_ ?_) | (refine fun _ => ?_))
      all_goals
        refine WpE.into ?_ key
        exact into [0, 1, 2, 3, 4, 5] ⟨⟨_, rfl, rfl⟩, ⟨_, rfl, rfl⟩, ⟨_, rfl, rfl⟩, ⟨_, rfl, rfl⟩, ⟨_, rfl, rfl⟩, ⟨_, rfl, rfl⟩, ⟨_, rfl, rfl⟩, ⟨_, rfl, rfl⟩, ⟨_, rfl, rfl⟩, ⟨_, rfl, rfl⟩, trivial⟩ ⟨_, rfl, rfl⟩ rfl rfl rfl rfl
    refine e_run tt_ok ctOn_ok k_l29_SchedOnce [100072] 90 (by kernel_rfl) ?_
    refine ⟨.t (.s (.bool false)), fun β => told_bl rfl, rfl, ?_⟩
    refine ⟨fun _ => ⟨true, hst, ?_⟩, fun h => absurd h (by decide)⟩
    refine ⟨fun h => absurd h (by decide), fun _ => ?_⟩
    show WpC _ _ _ _ _
    refine c_loop (α := Nat) (fun j => j ≤ 20) (fun j => 20 - j)
      (fun j => [(0, .t (.s (.sl 0 0 D.length cap)), none), (3, .t (.s (.loc 1 0)), none), (5, .t (.s (.loc 3 0)), none), (6, .t (.s (.sl 4 0 20 20)), none), (7, .t (.s (.int .i64 (i : Int))), none), (9, .t (.s (.bool (stB k.busy W))), none), (10, .t (.s (.int .i32 k.wptr)), none), (11, .t (.s (.bool (saB k.busy W))), none), (14, .t (.s (.int .i64 (j : Int))), none)])
      (fun j => [.view (ddV D), .blk 52 [.sl 2 0 m'.l.length m'.l.length], mOwn m'.l, .blk 32 k'.sv, .own 4 1 20 (rowV A A' j)]) 0 (Nat.zero_le _) ?_ ?_
    · rw [rowV_zero A A' A]
      exact into [0, 1, 2, 3, 4] ⟨⟨_, rfl, rfl⟩, ⟨_, rfl, rfl⟩, ⟨_, rfl, rfl⟩, ⟨_, rfl, rfl⟩, ⟨_, rfl, rfl⟩, ⟨_, rfl, rfl⟩, ⟨_, rfl, rfl⟩, ⟨_, rfl, rfl⟩, ⟨_, rfl, rfl⟩, trivial⟩ ⟨_, rfl, rfl⟩ rfl rfl rfl rfl
    intro j hj
    dsimp only
    refine c_run' tt_ok ctOn_ok k_l29_SchedOnce [100088, 100103] 90 (by kernel_rfl) (by kernel_rfl) ?_
    refine ⟨fun h2 => ?_, fun h2 => ?_⟩
    · have hjl : j < 20 := by have := of_decide_eq_true h2; omega
      obtain ⟨b1, hb1⟩ : ∃ b, (bif stB k.busy W then spc j == k.wptr else false) = b := ⟨_, rfl⟩
      obtain ⟨b2, hb2⟩ : ∃ b, (bif saB k.busy W then w == j else false) = b := ⟨_, rfl⟩
      have hmj := hmem j hjl
      rw [hb1, hb2] at hmj
      have hwj : (IntKind.i64.wrap (d.b.tmod 20) == (j : Int)) = (w == j) := by rw [hwd, Bool.eq_iff_iff, beq_iff_eq, beq_iff_eq]; omega
      have hrl := rowV_len A A' j
      refine ⟨fun _ => ⟨by omega, by omega⟩, ?_⟩
      refine ⟨.t (.s (.bool b1)), fun β => told_bl hb1, rfl, ?_⟩
      refine ⟨fun e1 => ?_, fun e1 => ?_⟩
      · subst e1
        refine ⟨j, ⟨rfl, hjl, by show 0 + (j + 1) * 1 ≤ _; rw [hrl]; omega⟩, ?_⟩
        refine ⟨by show 0 + j * (0 + 1) + 1 ≤ _; rw [hrl]; omega, ?_⟩
        have g1 : setV (rowV A A' j) (0 + j * (0 + 1)) (List.map SV.cv [SV.bool false]) = (rowV A A' j).set j (.bool false) := setV_bool _ (by rw [hrl]; exact hjl) _
        have l1 : (setV (rowV A A' j) (0 + j * (0 + 1)) (List.map SV.cv [SV.bool false])).length = 20 := by rw [g1, List.length_set]; exact hrl
        refine ⟨i, fun _ => ⟨rfl, hlt, hbd⟩, .int .u8 d.b, rfl, fun _ => hc1, ?_⟩
        refine ⟨.t (.s (.bool b2)), fun β => told_bl (by rw [← hb2, ← hwj]), rfl, ?_⟩
        refine ⟨fun e2 => ?_, fun e2 => ?_⟩
        · subst e2
          refine ⟨j, ⟨rfl, hjl, by show 0 + (j + 1) * 1 ≤ _; rw [l1]; omega⟩, ?_⟩
          refine ⟨by show 0 + j * (0 + 1) + 1 ≤ _; rw [l1]; omega, ?_⟩
          have hd' : decide (j ∈ A') = true := hmj
          have g2 : setV (setV (rowV A A' j) (0 + j * (0 + 1)) (List.map SV.cv [SV.bool false])) (0 + j * (0 + 1)) (List.map SV.cv [SV.bool true]) = (setV (rowV A A' j) (0 + j * (0 + 1)) (List.map SV.cv [SV.bool false])).set j (.bool true) := setV_bool _ (by rw [l1]; exact hjl) _
          have l2 : (setV (setV (rowV A A' j) (0 + j * (0 + 1)) (List.map SV.cv [SV.bool false])) (0 + j * (0 + 1)) (List.map SV.cv [SV.bool true])).length = 20 := by rw [g2, List.length_set]; exact l1
          have nx : setV (setV (rowV A A' j) (0 + j * (0 + 1)) (List.map SV.cv [SV.bool false])) (0 + j * (0 + 1)) (List.map SV.cv [SV.bool true]) = rowV A A' (j + 1) := by rw [g2, ← hd']; exact rowV_set hjl l1 fun t ht => by rw [g1, List.getElem?_set_ne (fun e => ht e.symm)]
          have ce : (setV (setV (rowV A A' j) (0 + j * (0 + 1)) (List.map SV.cv [SV.bool false])) (0 + j * (0 + 1)) (List.map SV.cv [SV.bool true]))[0 + j * 1]? = some (.bool (decide (j ∈ A'))) := by rw [g2]; exact cell_set (by rw [l1]; exact hjl) (by rw [hd'])
          refine ⟨j, ⟨rfl, hjl, by show 0 + (j + 1) * 1 ≤ _; rw [l2]; omega⟩, .bool (decide (j ∈ A')), rfl, ce, ?_⟩
          refine ⟨fun hv => ?_, fun hv => ?_⟩
          · show WpC _ _ _ _ _
            have hcnt : (allQ r' s' H' L').count j = 1 := by rw [count_mem hH'.nd, hA']; simpa using hv
            refine c_merge [(0, .t (.s (.sl 0 0 D.length cap)), none), (3, .t (.s (.loc 1 0)), none), (5, .t (.s (.loc 3 0)), none), (6, .t (.s (.sl 4 0 20 20)), none), (7, .t (.s (.int .i64 (i : Int))), none), (9, .t (.s (.bool (stB k.busy W))), none), (10, .t (.s (.int .i32 k.wptr)), none), (11, .t (.s (.bool (saB k.busy W))), none), (14, .t (.s (.int .i64 (j : Int))), none), (117, .t (.s (.bool false)), none)]
              [.view (ddV D), .blk 52 [.sl 2 0 m'.l.length m'.l.length], mOwn m'.l, .blk 32 k'.sv, .own 4 1 20 (rowV A A' (j + 1))] (fun key => ?ways1) ?cont1
            case ways1 =>
              refine c_waysH tt_ok ctOn_ok k_l29_SchedOnce [0, 3, 4] rfl rfl rfl ?_
              repeat' (first | exact trivial | exact ⟨rfl, rfl, rfl, trivial⟩ | (refine And.intro ⟨by omega, by omega⟩ ?_) | (refine Exists.intro (m', j, 1) ?_; refine And.intro ⟨rfl, rfl, rfl, rfl, rfl, r', lo', s', H', L', hH', hcnt⟩ ?_) | (refine And.intro ?_ ?_) | (refine fun _ => ?_))
              all_goals
                refine WpE.into ?_ key
                exact into [0, 1, 2, 3, 4] ⟨⟨_, rfl, rfl⟩, ⟨_, rfl, rfl⟩, ⟨_, rfl, rfl⟩, ⟨_, rfl, rfl⟩, ⟨_, rfl, rfl⟩, ⟨_, rfl, rfl⟩, ⟨_, rfl, rfl⟩, ⟨_, rfl, rfl⟩, ⟨_, rfl, rfl⟩, ⟨_, rfl, rfl⟩, trivial⟩ ⟨_, rfl, by rw [← nx]; rfl⟩ rfl rfl rfl rfl
            refine e_run tt_ok ctOn_ok k_l29_SchedOnce [] 90 (by kernel_rfl) ?_
            refine ⟨fun h => absurd h (by decide), fun _ => ?_⟩
            exact e_again (j + 1) (by show j + 1 ≤ 20; omega) (by show 20 - (j + 1) < 20 - j; omega) (into [0, 1, 2, 3, 4] ⟨⟨_, rfl, rfl⟩, ⟨_, rfl, rfl⟩, ⟨_, rfl, rfl⟩, ⟨_, rfl, rfl⟩, ⟨_, rfl, rfl⟩, ⟨_, rfl, rfl⟩, ⟨_, rfl, rfl⟩, ⟨_, rfl, rfl⟩, ⟨_, rfl, fvi (wrapSucc (by omega))⟩, trivial⟩ ⟨_, rfl, rfl⟩ rfl rfl rfl rfl)
          · show WpC _ _ _ _ _
            have hcnt : (allQ r' s' H' L').count j = 0 := by rw [count_mem hH'.nd, hA']; simpa using hv
            refine c_merge [(0, .t (.s (.sl 0 0 D.length cap)), none), (3, .t (.s (.loc 1 0)), none), (5, .t (.s (.loc 3 0)), none), (6, .t (.s (.sl 4 0 20 20)), none), (7, .t (.s (.int .i64 (i : Int))), none), (9, .t (.s (.bool (stB k.busy W))), none), (10, .t (.s (.int .i32 k.wptr)), none), (11, .t (.s (.bool (saB k.busy W))), none), (14, .t (.s (.int .i64 (j : Int))), none), (117, .t (.s (.bool false)), none)]
              [.view (ddV D), .blk 52 [.sl 2 0 m'.l.length m'.l.length], mOwn m'.l, .blk 32 k'.sv, .own 4 1 20 (rowV A A' (j + 1))] (fun key => ?ways2) ?cont2
            case ways2 =>
              refine c_waysH tt_ok ctOn_ok k_l29_SchedOnce [0, 3, 4] rfl rfl rfl ?_
              repeat' (first | exact trivial | exact ⟨rfl, rfl, rfl, trivial⟩ | (refine And.intro ⟨by omega, by omega⟩ ?_) | (refine Exists.intro (m', j, 0) ?_; refine And.intro ⟨rfl, rfl, rfl, rfl, rfl, r', lo', s', H', L', hH', hcnt⟩ ?_) | (refine And.intro ?_ ?_) | (refine fun _ => ?_))
              all_goals
                refine WpE.into ?_ key
                exact into [0, 1, 2, 3, 4] ⟨⟨_, rfl, rfl⟩, ⟨_, rfl, rfl⟩, ⟨_, rfl, rfl⟩, ⟨_, rfl, rfl⟩, ⟨_, rfl, rfl⟩, ⟨_, rfl, rfl⟩, ⟨_, rfl, rfl⟩, ⟨_, rfl, rfl⟩, ⟨_, rfl, rfl⟩, ⟨_, rfl, rfl⟩, trivial⟩ ⟨_, rfl, by rw [← nx]; rfl⟩ rfl rfl rfl rfl
            refine e_run tt_ok ctOn_ok k_l29_SchedOnce [] 90 (by kernel_rfl) ?_
            refine ⟨fun h => absurd h (by decide), fun _ => ?_⟩
            exact e_again (j + 1) (by show j + 1 ≤ 20; omega) (by show 20 - (j + 1) < 20 - j; omega) (into [0, 1, 2, 3, 4] ⟨⟨_, rfl, rfl⟩, ⟨_, rfl, rfl⟩, ⟨_, rfl, rfl⟩, ⟨_, rfl, rfl⟩, ⟨_, rfl, rfl⟩, ⟨_, rfl, rfl⟩, ⟨_, rfl, rfl⟩, ⟨_, rfl, rfl⟩, ⟨_, rfl, fvi (wrapSucc (by omega))⟩, trivial⟩ ⟨_, rfl, rfl⟩ rfl rfl rfl rfl)
        · subst e2
          have hd' : decide (j ∈ A') = false := hmj
          have nx : setV (rowV A A' j) (0 + j * (0 + 1)) (List.map SV.cv [SV.bool false]) = rowV A A' (j + 1) := by rw [g1, ← hd']; exact rowV_set hjl hrl fun _ _ => rfl
          have ce : (setV (rowV A A' j) (0 + j * (0 + 1)) (List.map SV.cv [SV.bool false]))[0 + j * 1]? = some (.bool (decide (j ∈ A'))) := by rw [g1]; exact cell_set (by rw [hrl]; exact hjl) (by rw [hd'])
          refine ⟨j, ⟨rfl, hjl, by show 0 + (j + 1) * 1 ≤ _; rw [l1]; omega⟩, .bool (decide (j ∈ A')), rfl, ce, ?_⟩
          refine ⟨fun hv => ?_, fun hv => ?_⟩
          · show WpC _ _ _ _ _
            have hcnt : (allQ r' s' H' L').count j = 1 := by rw [count_mem hH'.nd, hA']; simpa using hv
            refine c_merge [(0, .t (.s (.sl 0 0 D.length cap)), none), (3, .t (.s (.loc 1 0)), none), (5, .t (.s (.loc 3 0)), none), (6, .t (.s (.sl 4 0 20 20)), none), (7, .t (.s (.int .i64 (i : Int))), none), (9, .t (.s (.bool (stB k.busy W))), none), (10, .t (.s (.int .i32 k.wptr)), none), (11, .t (.s (.bool (saB k.busy W))), none), (14, .t (.s (.int .i64 (j : Int))), none), (117, .t (.s (.bool false)), none)]
              [.view (ddV D), .blk 52 [.sl 2 0 m'.l.length m'.l.length], mOwn m'.l, .blk 32 k'.sv, .own 4 1 20 (rowV A A' (j + 1))] (fun key => ?ways3) ?cont3
            case ways3 =>
              refine c_waysH tt_ok ctOn_ok k_l29_SchedOnce [0, 3, 4] rfl rfl rfl ?_
              repeat' (first | exact trivial | exact ⟨rfl, rfl, rfl, trivial⟩ | (refine And.intro ⟨by omega, by omega⟩ ?_) | (refine Exists.intro (m', j, 1) ?_; refine And.intro ⟨rfl, rfl, rfl, rfl, rfl, r', lo', s', H', L', hH', hcnt⟩ ?_) | (refine And.intro ?_ ?_) | (refine fun _ => ?_))
              all_goals
                refine WpE.into ?_ key
                exact into [0, 1, 2, 3, 4] ⟨⟨_, rfl, rfl⟩, ⟨_, rfl, rfl⟩, ⟨_, rfl, rfl⟩, ⟨_, rfl, rfl⟩, ⟨_, rfl, rfl⟩, ⟨_, rfl, rfl⟩, ⟨_, rfl, rfl⟩, ⟨_, rfl, rfl⟩, ⟨_, rfl, rfl⟩, ⟨_, rfl, rfl⟩, trivial⟩ ⟨_, rfl, by rw [← nx]; rfl⟩ rfl rfl rfl rfl
            refine e_run tt_ok ctOn_ok k_l29_SchedOnce [] 90 (by kernel_rfl) ?_
            refine ⟨fun h => absurd h (by decide), fun _ => ?_⟩
            exact e_again (j + 1) (by show j + 1 ≤ 20; omega) (by show 20 - (j + 1) < 20 - j; omega) (into [0, 1, 2, 3, 4] ⟨⟨_, rfl, rfl⟩, ⟨_, rfl, rfl⟩, ⟨_, rfl, rfl⟩, ⟨_, rfl, rfl⟩, ⟨_, rfl, rfl⟩, ⟨_, rfl, rfl⟩, ⟨_, rfl, rfl⟩, ⟨_, rfl, rfl⟩, ⟨_, rfl, fvi (wrapSucc (by omega))⟩, trivial⟩ ⟨_, rfl, rfl⟩ rfl rfl rfl rfl)
          · show WpC _ _ _ _ _
            have hcnt : (allQ r' s' H' L').count j = 0 := by rw [count_mem hH'.nd, hA']; simpa using hv
            refine c_merge [(0, .t (.s (.sl 0 0 D.length cap)), none), (3, .t (.s (.loc 1 0)), none), (5, .t (.s (.loc 3 0)), none), (6, .t (.s (.sl 4 0 20 20)), none), (7, .t (.s (.int .i64 (i : Int))), none), (9, .t (.s (.bool (stB k.busy W))), none), (10, .t (.s (.int .i32 k.wptr)), none), (11, .t (.s (.bool (saB k.busy W))), none), (14, .t (.s (.int .i64 (j : Int))), none), (117, .t (.s (.bool false)), none)]
              [.view (ddV D), .blk 52 [.sl 2 0 m'.l.length m'.l.length], mOwn m'.l, .blk 32 k'.sv, .own 4 1 20 (rowV A A' (j + 1))] (fun key => ?ways4) ?cont4
            case ways4 =>
              refine c_waysH tt_ok ctOn_ok k_l29_SchedOnce [0, 3, 4] rfl rfl rfl ?_
              repeat' (first | exact trivial | exact ⟨rfl, rfl, rfl, trivial⟩ | (refine And.intro ⟨by omega, by omega⟩ ?_) | (refine Exists.intro (m', j, 0) ?_; refine And.intro ⟨rfl, rfl, rfl, rfl, rfl, r', lo', s', H', L', hH', hcnt⟩ ?_) | (refine And.intro ?_ ?_) | (refine fun _ => ?_))
              all_goals
                refine WpE.into ?_ key
                exact into [0, 1, 2, 3, 4] ⟨⟨_, rfl, rfl⟩, ⟨_, rfl, rfl⟩, ⟨_, rfl, rfl⟩, ⟨_, rfl, rfl⟩, ⟨_, rfl, rfl⟩, ⟨_, rfl, rfl⟩, ⟨_, rfl, rfl⟩, ⟨_, rfl, rfl⟩, ⟨_, rfl, rfl⟩, ⟨_, rfl, rfl⟩, trivial⟩ ⟨_, rfl, by rw [← nx]; rfl⟩ rfl rfl rfl rfl
            refine e_run tt_ok ctOn_ok k_l29_SchedOnce [] 90 (by kernel_rfl) ?_
            refine ⟨fun h => absurd h (by decide), fun _ => ?_⟩
            exact e_again (j + 1) (by show j + 1 ≤ 20; omega) (by show 20 - (j + 1) < 20 - j; omega) (into [0, 1, 2, 3, 4] ⟨⟨_, rfl, rfl⟩, ⟨_, rfl, rfl⟩, ⟨_, rfl, rfl⟩, ⟨_, rfl, rfl⟩, ⟨_, rfl, rfl⟩, ⟨_, rfl, rfl⟩, ⟨_, rfl, rfl⟩, ⟨_, rfl, rfl⟩, ⟨_, rfl, fvi (wrapSucc (by omega))⟩, trivial⟩ ⟨_, rfl, rfl⟩ rfl rfl rfl rfl)
      · subst e1
        refine ⟨i, fun _ => ⟨rfl, hlt, hbd⟩, .int .u8 d.b, rfl, fun _ => hc1, ?_⟩
        refine ⟨.t (.s (.bool b2)), fun β => told_bl (by rw [← hb2, ← hwj]), rfl, ?_⟩
        refine ⟨fun e2 => ?_, fun e2 => ?_⟩
        · subst e2
          refine ⟨j, ⟨rfl, hjl, by show 0 + (j + 1) * 1 ≤ _; rw [hrl]; omega⟩, ?_⟩
          refine ⟨by show 0 + j * (0 + 1) + 1 ≤ _; rw [hrl]; omega, ?_⟩
          have hd' : decide (j ∈ A') = true := hmj
          have g2 : setV (rowV A A' j) (0 + j * (0 + 1)) (List.map SV.cv [SV.bool true]) = (rowV A A' j).set j (.bool true) := setV_bool _ (by rw [hrl]; exact hjl) _
          have l2 : (setV (rowV A A' j) (0 + j * (0 + 1)) (List.map SV.cv [SV.bool true])).length = 20 := by rw [g2, List.length_set]; exact hrl
          have nx : setV (rowV A A' j) (0 + j * (0 + 1)) (List.map SV.cv [SV.bool true]) = rowV A A' (j + 1) := by rw [g2, ← hd']; exact rowV_set hjl hrl fun _ _ => rfl
          have ce : (setV (rowV A A' j) (0 + j * (0 + 1)) (List.map SV.cv [SV.bool true]))[0 + j * 1]? = some (.bool (decide (j ∈ A'))) := by rw [g2]; exact cell_set (by rw [hrl]; exact hjl) (by rw [hd'])
          refine ⟨j, ⟨rfl, hjl, by show 0 + (j + 1) * 1 ≤ _; rw [l2]; omega⟩, .bool (decide (j ∈ A')), rfl, ce, ?_⟩
          refine ⟨fun hv => ?_, fun hv => ?_⟩
          · show WpC _ _ _ _ _
            have hcnt : (allQ r' s' H' L').count j = 1 := by rw [count_mem hH'.nd, hA']; simpa using hv
            refine c_merge [(0, .t (.s (.sl 0 0 D.length cap)), none), (3, .t (.s (.loc 1 0)), none), (5, .t (.s (.loc 3 0)), none), (6, .t (.s (.sl 4 0 20 20)), none), (7, .t (.s (.int .i64 (i : Int))), none), (9, .t (.s (.bool (stB k.busy W))), none), (10, .t (.s (.int .i32 k.wptr)), none), (11, .t (.s (.bool (saB k.busy W))), none), (14, .t (.s (.int .i64 (j : Int))), none), (117, .t (.s (.bool false)), none)]
              [.view (ddV D), .blk 52 [.sl 2 0 m'.l.length m'.l.length], mOwn m'.l, .blk 32 k'.sv, .own 4 1 20 (rowV A A' (j + 1))] (fun key => ?ways5) ?cont5
            case ways5 =>
              refine c_waysH tt_ok ctOn_ok k_l29_SchedOnce [0, 3, 4] rfl rfl rfl ?_
              repeat' (first | exact trivial | exact ⟨rfl, rfl, rfl, trivial⟩ | (refine And.intro ⟨by omega, by omega⟩ ?_) | (refine Exists.intro (m', j, 1) ?_; refine And.intro ⟨rfl, rfl, rfl, rfl, rfl, r', lo', s', H', L', hH', hcnt⟩ ?_) | (refine And.intro ?_ ?_) | (refine fun _ => ?_))
              all_goals
                refine WpE.into ?_ key
                exact into [0, 1, 2, 3, 4] ⟨⟨_, rfl, rfl⟩, ⟨_, rfl, rfl⟩, ⟨_, rfl, rfl⟩, ⟨_, rfl, rfl⟩, ⟨_, rfl, rfl⟩, ⟨_, rfl, rfl⟩, ⟨_, rfl, rfl⟩, ⟨_, rfl, rfl⟩, ⟨_, rfl, rfl⟩, ⟨_, rfl, rfl⟩, trivial⟩ ⟨_, rfl, by rw [← nx]; rfl⟩ rfl rfl rfl rfl
            refine e_run tt_ok ctOn_ok k_l29_SchedOnce [] 90 (by kernel_rfl) ?_
            refine ⟨fun h => absurd h (by decide), fun _ => ?_⟩
            exact e_again (j + 1) (by show j + 1 ≤ 20; omega) (by show 20 - (j + 1) < 20 - j; omega) (into [0, 1, 2, 3, 4] ⟨⟨_, rfl, rfl⟩, ⟨_, rfl, rfl⟩, ⟨_, rfl, rfl⟩, ⟨_, rfl, rfl⟩, ⟨_, rfl, rfl⟩, ⟨_, rfl, rfl⟩, ⟨_, rfl, rfl⟩, ⟨_, rfl, rfl⟩, ⟨_, rfl, fvi (wrapSucc (by omega))⟩, trivial⟩ ⟨_, rfl, rfl⟩ rfl rfl rfl rfl)
          · show WpC _ _ _ _ _
            have hcnt : (allQ r' s' H' L').count j = 0 := by rw [count_mem hH'.nd, hA']; simpa using hv
            refine c_merge [(0, .t (.s (.sl 0 0 D.length cap)), none), (3, .t (.s (.loc 1 0)), none), (5, .t (.s (.loc 3 0)), none), (6, .t (.s (.sl 4 0 20 20)), none), (7, .t (.s (.int .i64 (i : Int))), none), (9, .t (.s (.bool (stB k.busy W))), none), (10, .t (.s (.int .i32 k.wptr)), none), (11, .t (.s (.bool (saB k.busy W))), none), (14, .t (.s (.int .i64 (j : Int))), none), (117, .t (.s (.bool false)), none)]
              [.view (ddV D), .blk 52 [.sl 2 0 m'.l.length m'.l.length], mOwn m'.l, .blk 32 k'.sv, .own 4 1 20 (rowV A A' (j + 1))] (fun key => ?ways6) ?cont6
            case ways6 =>
              refine c_waysH tt_ok ctOn_ok k_l29_SchedOnce [0, 3, 4] rfl rfl rfl ?_
              repeat' (first | exact trivial | exact ⟨rfl, rfl, rfl, trivial⟩ | (refine And.intro ⟨by omega, by omega⟩ ?_) | (refine Exists.intro (m', j, 0) ?_; refine And.intro ⟨rfl, rfl, rfl, rfl, rfl, r', lo', s', H', L', hH', hcnt⟩ ?_) | (refine And.intro ?_ ?_) | (refine fun _ => ?_))
              all_goals
                refine WpE.into ?_ key
                exact into [0, 1, 2, 3, 4] ⟨⟨_, rfl, rfl⟩, ⟨_, rfl, rfl⟩, ⟨_, rfl, rfl⟩, ⟨_, rfl, rfl⟩, ⟨_, rfl, rfl⟩, ⟨_, rfl, rfl⟩, ⟨_, rfl, rfl⟩, ⟨_, rfl, rfl⟩, ⟨_, rfl, rfl⟩, ⟨_, rfl, rfl⟩, trivial⟩ ⟨_, rfl, by rw [← nx]; rfl⟩ rfl rfl rfl rfl
            refine e_run tt_ok ctOn_ok k_l29_SchedOnce [] 90 (by kernel_rfl) ?_
            refine ⟨fun h => absurd h (by decide), fun _ => ?_⟩
            exact e_again (j + 1) (by show j + 1 ≤ 20; omega) (by show 20 - (j + 1) < 20 - j; omega) (into [0, 1, 2, 3, 4] ⟨⟨_, rfl, rfl⟩, ⟨_, rfl, rfl⟩, ⟨_, rfl, rfl⟩, ⟨_, rfl, rfl⟩, ⟨_, rfl, rfl⟩, ⟨_, rfl, rfl⟩, ⟨_, rfl, rfl⟩, ⟨_, rfl, rfl⟩, ⟨_, rfl, fvi (wrapSucc (by omega))⟩, trivial⟩ ⟨_, rfl, rfl⟩ rfl rfl rfl rfl)
        · subst e2
          have hd' : decide (j ∈ A') = decide (j ∈ A) := hmj
          have nx : rowV A A' j = rowV A A' (j + 1) := (rowV_next hd').symm
          have ce : (rowV A A' j)[0 + j * 1]? = some (.bool (decide (j ∈ A'))) := by rw [show 0 + j * 1 = j by omega, rowV_at A A' hjl, hd']
          refine ⟨j, ⟨rfl, hjl, by show 0 + (j + 1) * 1 ≤ _; rw [hrl]; omega⟩, .bool (decide (j ∈ A')), rfl, ce, ?_⟩
          refine ⟨fun hv => ?_, fun hv => ?_⟩
          · show WpC _ _ _ _ _
            have hcnt : (allQ r' s' H' L').count j = 1 := by rw [count_mem hH'.nd, hA']; simpa using hv
            refine c_merge [(0, .t (.s (.sl 0 0 D.length cap)), none), (3, .t (.s (.loc 1 0)), none), (5, .t (.s (.loc 3 0)), none), (6, .t (.s (.sl 4 0 20 20)), none), (7, .t (.s (.int .i64 (i : Int))), none), (9, .t (.s (.bool (stB k.busy W))), none), (10, .t (.s (.int .i32 k.wptr)), none), (11, .t (.s (.bool (saB k.busy W))), none), (14, .t (.s (.int .i64 (j : Int))), none), (117, .t (.s (.bool false)), none)]
              [.view (ddV D), .blk 52 [.sl 2 0 m'.l.length m'.l.length], mOwn m'.l, .blk 32 k'.sv, .own 4 1 20 (rowV A A' (j + 1))] (fun key => ?ways7) ?cont7
            case ways7 =>
              refine c_waysH tt_ok ctOn_ok k_l29_SchedOnce [0, 3, 4] rfl rfl rfl ?_
              repeat' (first | exact trivial | exact ⟨rfl, rfl, rfl, trivial⟩ | (refine And.intro ⟨by omega, by omega⟩ ?_) | (refine Exists.intro (m', j, 1) ?_; refine And.intro ⟨rfl, rfl, rfl, rfl, rfl, r', lo', s', H', L', hH', hcnt⟩ ?_) | (refine And.intro ?_ ?_) | (refine fun _ => ?_))
              all_goals
                refine WpE.into ?_ key
                exact into [0, 1, 2, 3, 4] ⟨⟨_, rfl, rfl⟩, ⟨_, rfl, rfl⟩, ⟨_, rfl, rfl⟩, ⟨_, rfl, rfl⟩, ⟨_, rfl, rfl⟩, ⟨_, rfl, rfl⟩, ⟨_, rfl, rfl⟩, ⟨_, rfl, rfl⟩, ⟨_, rfl, rfl⟩, ⟨_, rfl, rfl⟩, trivial⟩ ⟨_, rfl, by rw [← nx]; rfl⟩ rfl rfl rfl rfl
            refine e_run tt_ok ctOn_ok k_l29_SchedOnce [] 90 (by kernel_rfl) ?_
            refine ⟨fun h => absurd h (by decide), fun _ => ?_⟩
            exact e_again (j + 1) (by show j + 1 ≤ 20; omega) (by show 20 - (j + 1) < 20 - j; omega) (into [0, 1, 2, 3, 4] ⟨⟨_, rfl, rfl⟩, ⟨_, rfl, rfl⟩, ⟨_, rfl, rfl⟩, ⟨_, rfl, rfl⟩, ⟨_, rfl, rfl⟩, ⟨_, rfl, rfl⟩, ⟨_, rfl, rfl⟩, ⟨_, rfl, rfl⟩, ⟨_, rfl, fvi (wrapSucc (by omega))⟩, trivial⟩ ⟨_, rfl, rfl⟩ rfl rfl rfl rfl)
          · show WpC _ _ _ _ _
            have hcnt : (allQ r' s' H' L').count j = 0 := by rw [count_mem hH'.nd, hA']; simpa using hv
            refine c_merge [(0, .t (.s (.sl 0 0 D.length cap)), none), (3, .t (.s (.loc 1 0)), none), (5, .t (.s (.loc 3 0)), none), (6, .t (.s (.sl 4 0 20 20)), none), (7, .t (.s (.int .i64 (i : Int))), none), (9, .t (.s (.bool (stB k.busy W))), none), (10, .t (.s (.int .i32 k.wptr)), none), (11, .t (.s (.bool (saB k.busy W))), none), (14, .t (.s (.int .i64 (j : Int))), none), (117, .t (.s (.bool false)), none)]
              [.view (ddV D), .blk 52 [.sl 2 0 m'.l.length m'.l.length], mOwn m'.l, .blk 32 k'.sv, .own 4 1 20 (rowV A A' (j + 1))] (fun key => ?ways8) ?cont8
            case ways8 =>
              refine c_waysH tt_ok ctOn_ok k_l29_SchedOnce [0, 3, 4] rfl rfl rfl ?_
              repeat' (first | exact trivial | exact ⟨rfl, rfl, rfl, trivial⟩ | (refine And.intro ⟨by omega, by omega⟩ ?_) | (refine Exists.intro (m', j, 0) ?_; refine And.intro ⟨rfl, rfl, rfl, rfl, rfl, r', lo', s', H', L', hH', hcnt⟩ ?_) | (refine And.intro ?_ ?_) | (refine fun _ => ?_))
              all_goals
                refine WpE.into ?_ key
                exact into [0, 1, 2, 3, 4] ⟨⟨_, rfl, rfl⟩, ⟨_, rfl, rfl⟩, ⟨_, rfl, rfl⟩, ⟨_, rfl, rfl⟩, ⟨_, rfl, rfl⟩, ⟨_, rfl, rfl⟩, ⟨_, rfl, rfl⟩, ⟨_, rfl, rfl⟩, ⟨_, rfl, rfl⟩, ⟨_, rfl, rfl⟩, trivial⟩ ⟨_, rfl, by rw [← nx]; rfl⟩ rfl rfl rfl rfl
            refine e_run tt_ok ctOn_ok k_l29_SchedOnce [] 90 (by kernel_rfl) ?_
            refine ⟨fun h => absurd h (by decide), fun _ => ?_⟩
            exact e_again (j + 1) (by show j + 1 ≤ 20; omega) (by show 20 - (j + 1) < 20 - j; omega) (into [0, 1, 2, 3, 4] ⟨⟨_, rfl, rfl⟩, ⟨_, rfl, rfl⟩, ⟨_, rfl, rfl⟩, ⟨_, rfl, rfl⟩, ⟨_, rfl, rfl⟩, ⟨_, rfl, rfl⟩, ⟨_, rfl, rfl⟩, ⟨_, rfl, rfl⟩, ⟨_, rfl, fvi (wrapSucc (by omega))⟩, trivial⟩ ⟨_, rfl, rfl⟩ rfl rfl rfl rfl)
    · have hz : j = 20 := by have := of_decide_eq_false h2; omega
      subst hz
      rw [rowV_full]
      exact e_again (i + 1, k', m', A') ⟨by show i + 1 ≤ _; omega, r', lo', s', H', L', hH', hC', hA'⟩ (by show D.length - (i + 1) < D.length - i; omega) (into [0, 1, 2, 3, 4] ⟨⟨_, rfl, rfl⟩, ⟨_, rfl, rfl⟩, ⟨_, rfl, rfl⟩, ⟨_, rfl, rfl⟩, ⟨_, rfl, fvi (wrapSucc (by omega))⟩, trivial⟩ ⟨_, rfl, rfl⟩ rfl rfl rfl rfl)
  · have hz : i = D.length := by have := of_decide_eq_false h1; omega
    exact fin_k tt_ok (rs := rs_l29_SchedOnce) rfl rfl hK [0] rfl rfl rfl rfl rfl rfl
end Go.Proofs

namespace Go.Proofs
open Go Go.Sx
theorem dd_conv (q : List Value) (h : KOK [.int .u8, .int .u8, .int .u8] q) : ∃ e, Dd.good e ∧ q = Dd.vs e := by
  match q, h with
  | [x, y, z], ⟨⟨a, h1, h2⟩, ⟨b, h3, h4⟩, ⟨c, h5, h6⟩, _⟩ =>
    subst h1; subst h3; subst h5
    exact ⟨⟨a, b, c⟩, ⟨u8_fit' h2, u8_fit' h4, u8_fit' h6⟩, rfl⟩
end Go.Proofs
