/- CodeBack: the law and the walk. -/
import Derived.Test.YtbefefoegbfamaaWalkC
import Derived.Test.YtbefefoegbfamaaSxD

namespace Go.Proofs
open Go Go.Sx
set_option maxRecDepth 10000
def ownO (L : List (Int × Int)) : List (Int × Int) := (L.take 60).map fun p => (fixS p.1, p.2)
def GoodO (O : List (Int × Int)) : Prop := ∀ p ∈ O, validS p.1 = true ∧ 0 ≤ p.1 ∧ p.1 ≤ 15 ∧ p.1 ≠ 2 ∧ p.1 ≠ 6 ∧ InI32 p.2
theorem pr_rng {p : Int × Int} (h : prGood p) : 0 ≤ p.1 ∧ p.1 ≤ 255 ∧ InI32 p.2 := by
  obtain ⟨h1, h2⟩ := h
  have := i32_fit h2
  simp [Lit.wf, IntKind.min, IntKind.max, IntKind.signed, IntKind.bits] at h1
  exact ⟨by omega, by omega, this⟩
theorem told_b {b c : Bool} {β : Nat → Bd} (h : b = c) : (FV.t (.s (.bool c))).den β = (FV.t (.s (.bool b))).den β := by rw [h]
theorem ownO_len (L : List (Int × Int)) : (ownO L).length = min 60 L.length := by simp [ownO]
theorem ownO_good {L : List (Int × Int)} (g : ∀ e ∈ L, prGood e) : GoodO (ownO L) := fun p hp => by
  obtain ⟨q, hq, rfl⟩ := List.mem_map.1 hp
  obtain ⟨h1, h2, h3⟩ := pr_rng (g q (List.mem_of_mem_take hq))
  obtain ⟨k1, k2, k3, k4, k5⟩ := fix_law h1 h2
  exact ⟨k1, k2, k3, k4, k5, h3⟩
theorem getS_put {f v : Int} (h1 : 0 ≤ f) (h2 : f ≤ 15) (h3 : f ≠ 2) (h4 : f ≠ 6) (hv : InI32 v) (rest : List Int) : getS (putF 7 f v ++ rest) = (f, v, ((putF 7 f v).length : Int), 0) := by
  have hl : (putF 7 f v).length ≤ 8 := put_fits 7 8 _ v hv (fits_i32 (Nat.le_refl _) hv)
  have ht : (putF 7 f v ++ rest).take 16 = putF 7 f v ++ rest.take (16 - (putF 7 f v).length) := by
    rw [List.take_append, List.take_of_length_le (by omega)]
  have hgp := get_put 7 f v 0 (rest.take (16 - (putF 7 f v).length)) h1 h2 hv (putOk7 hv)
  simp only [stepG, h3, h4, if_false, Nat.zero_add] at hgp
  simp only [getS, ht, hgp]
theorem joinB_cons (p : Int × Int) (t : List (Int × Int)) : joinB (p :: t) = putF 7 p.1 p.2 ++ joinB t := rfl
theorem allA_join : ∀ (O : List (Int × Int)) (f : Nat) (acc : List (Int × Int)), GoodO O → (joinB O).length ≤ f → allA f (joinB O) acc = (acc ++ O, 0)
  | [], f, acc, _, _ => by
    cases f with
    | zero => simp [allA]
    | succ f => simp [allA, joinB]
  | p :: t, f, acc, g, hf => by
    obtain ⟨k1, k2, k3, k4, k5, k6⟩ := g p (List.mem_cons_self ..)
    have hp := putF_pos 7 p.1 p.2
    rw [joinB_cons, List.length_append] at hf
    cases f with
    | zero => omega
    | succ f =>
      rw [joinB_cons, allA, if_neg (by rw [List.length_append]; omega), getS_put k2 k3 k4 k5 k6]
      simp only [if_true, Int.toNat_natCast, List.drop_left]
      rw [allA_join t f _ (fun q hq => g q (List.mem_cons_of_mem _ hq)) (by omega), List.append_assoc]
      rfl
theorem allS_join {O : List (Int × Int)} (g : GoodO O) (h : O.length ≤ 60) : allS (joinB O) = (O, 0) := by
  have := joinB_len O
  unfold allS
  rw [if_neg (by omega), allA_join O _ [] g (Nat.le_refl _)]
  rfl
theorem joinE_good {O : List (Int × Int)} (g : GoodO O) (h : O.length ≤ 60) : joinE O = 0 := by
  have := joinB_len O
  unfold joinE
  rw [if_pos (by unfold allV; rw [List.all_eq_true]; exact fun p hp => (g p hp).1), if_neg (by omega)]
theorem joinB_at {O : List (Int × Int)} {i : Nat} {p : Int × Int} (h : O[i]? = some p) : (joinB O).drop (joinB (O.take i)).length = putF 7 p.1 p.2 ++ joinB (O.drop (i + 1)) := by
  have e : O = O.take i ++ p :: O.drop (i + 1) := by
    obtain ⟨hi, rfl⟩ := List.getElem?_eq_some_iff.1 h
    rw [List.getElem_cons_drop, List.take_append_drop]
  have : joinB O = joinB (O.take i) ++ (putF 7 p.1 p.2 ++ joinB (O.drop (i + 1))) := by
    conv => lhs; rw [e]
    unfold joinB
    rw [List.flatMap_append]; rfl
  rw [this, List.drop_left]
noncomputable abbrev ctBk : CT := [(f_l04_works, .pure sp13), (f_l04_fix, .pure sp20), (f_code_Join, eJoin), (f_code_All, eAll), (f_r04_Same, .rd rdSame), (f_code_Get, .rd rdGet), (f_code_Len, .pure sp15)]
theorem ctBk_ok : CTok Try.prog ctBk := ⟨ce13, ce20, con_ok cal_code_Join _, con_ok cal_code_All _, re_same, re_get, ce15, trivial⟩
theorem CodeBack_c (L : List (Int × Int)) (cl : Nat) (hg : ∀ e ∈ L, prGood e) (hcl : L.length ≤ cl) :
    Con Try.prog f_l04_CodeBack [.s (.sl 0 0 L.length cl)] [.view (insV L)] (.ret (.t (.s (.bool true))) [.view (insV L)]) := by
  intro K hK
  refine enter fn_l04_CodeBack rfl nt_l04_CodeBack rfl rfl (fun φ w0 β0 F => ?_)
  have e1 : (if (60 : Int) < (L.length : Int) then (60 : Int) else (L.length : Int)) = ((min 60 L.length : Nat) : Int) := by split <;> omega
  have hl1 : (L.take 60).length = min 60 L.length := List.length_take ..
  have hs1 : seg (insV L) (0 + 0 * 2) ((min 60 L.length - 0) * 2) = insV (L.take 60) := by
    rw [seg_insV, Nat.sub_zero, List.take_min_len]
  refine c_run tt_ok ctBk_ok k_l04_CodeBack [] 90 (by kernel_rfl) ?_
  refine ⟨trivial, fun h => absurd h (by decide), fun _ => ?_⟩
  refine ⟨0, min 60 L.length, ⟨_, _, rfl, rfl, rfl, e1⟩, ⟨by omega, by omega⟩, ?_⟩
  show WpC _ _ _ _ _
  refine WpC.into (nilSlot 3 26 2 rfl) ?_
  refine c_loop (α := Nat × Nat) (fun x => x.1 ≤ min 60 L.length ∧ x.1 ≤ x.2) (fun x => min 60 L.length - x.1)
    (fun x => [(0, .t (.s (.sl 1 0 (min 60 L.length - 0) (cl - 0))), none), (3, .t (.s (.sl 2 0 x.1 x.2)), none), (22, .t (.s (.int .i64 ((min 60 L.length - 0 : Nat) : Int))), none), (23, .t (.s (.int .i64 (x.1 : Int))), none)])
    (fun x => [.view (insV L), .view (seg (insV L) (0 + 0 * 2) ((min 60 L.length - 0) * 2)), .own 26 2 x.2 (insV ((ownO L).take x.1))]) (0, 0) ⟨Nat.zero_le _, Nat.le_refl _⟩ ?_ ?_
  · exact into [0, 1, 2] ⟨⟨_, rfl, rfl⟩, ⟨_, rfl, rfl⟩, ⟨_, rfl, rfl⟩, ⟨_, rfl, rfl⟩, trivial⟩ ⟨_, rfl, rfl⟩ rfl rfl rfl rfl
  · rintro ⟨i, c⟩ ⟨hi, hc⟩
    simp only at hi hc
    dsimp only
    refine c_run' tt_ok ctBk_ok k_l04_CodeBack [36] 90 (by kernel_rfl) (by kernel_rfl) ?_
    refine ⟨fun h => ?_, fun h => ?_⟩
    · have hlt : i < min 60 L.length := by have := of_decide_eq_true h; omega
      obtain ⟨p, hp⟩ : ∃ p, (L.take 60)[i]? = some p := ⟨_, List.getElem?_eq_getElem (by rw [hl1]; exact hlt)⟩
      have hrow := row_at hp
      have hO : (ownO L)[i]? = some (fixS p.1, p.2) := by unfold ownO; rw [List.getElem?_map, hp]; rfl
      obtain ⟨f, v⟩ := p
      dsimp only at hrow hO
      refine ⟨i, ⟨rfl, by omega, by rw [hs1, insV_len, hl1]; simp only [Nat.zero_add, Nat.reduceAdd]; omega⟩, [.int .u8 f, .int .i32 v], rfl, ⟨Nat.le_refl 2, by rw [hs1, show 0 + i * (1 + 1) = i * 2 by omega]; exact hrow⟩, ?_⟩
      have hlen : (insV ((ownO L).take i)).length = i * 2 := by rw [insV_len, List.length_take, ownO_len]; omega
      refine ⟨trivial, ⟨rfl, hlen, Nat.le_refl _, fun u hu => ?_, by simp only [maxLen]; omega, by omega⟩, fun c' hc1 hc2 => ?_⟩
      · rcases List.mem_cons.1 (List.mem_of_mem_drop (List.mem_of_mem_take hu)) with rfl | hu
        · rfl
        · rw [List.mem_singleton.1 hu]; rfl
      refine e_again (i + 1, c') ⟨by simp only; omega, by simpa using hc1⟩ (by simp only; omega) (into [0, 1, 4] ⟨⟨_, rfl, rfl⟩, ⟨_, rfl, rfl⟩, ⟨_, rfl, rfl⟩, ⟨_, rfl, fvi (wrapSucc (by omega))⟩, trivial⟩ ⟨_, rfl, ?_⟩ rfl rfl rfl rfl)
      dsimp only
      rw [List.take_add_one, hO, insV_append]
      rfl
    · have hz : i = min 60 L.length := by have := of_decide_eq_false h; omega
      subst hz
      have hG : GoodO (ownO L) := ownO_good hg
      have hn := ownO_len L
      have hn60 : (ownO L).length ≤ 60 := by omega
      have hjE := joinE_good hG hn60
      have hAS := allS_join hG hn60
      have htk : (ownO L).take (min 60 L.length) = ownO L := by rw [← hn, List.take_length]
      rw [← hn] at hc
      refine l_freeze 2 (xs := insV (ownO L)) rfl (by show some _ = _; rw [htk]) ?_
      refine l_run (ct := ctBk) tt_ok ctBk_ok k_l04_CodeBack [46] 90 rfl (by kernel_rfl) ?_
      refine ⟨ownO L, ⟨hn.symm, rfl, ⟨fun p hp => (hG p hp).2.2.2.2.2, hc, by omega⟩⟩, ?_⟩
      refine ⟨fun _ c1 hc1 => ?_, fun h => absurd h (by rw [hjE]; decide)⟩
      refine l_freeze 3 (xs := bytesI (joinB (ownO L))) rfl rfl ?_
      refine l_run (ct := ctBk) tt_ok ctBk_ok k_l04_CodeBack [46] 90 rfl (by kernel_rfl) ?_
      refine ⟨joinB (ownO L), ⟨rfl, rfl, hc1⟩, ?_⟩
      rw [hAS]
      refine ⟨fun _ c2 hc2 => ?_, fun h => absurd h (by simp)⟩
      refine l_run (ct := ctBk) tt_ok ctBk_ok k_l04_CodeBack [100050, 100056] 90 rfl (by kernel_rfl) ?_
      refine ⟨.t (.s (.bool false)), fun β => told_b (by decide), rfl, ?_⟩
      have hsg : seg (insV (ownO L)) 0 ((ownO L).length * 2) = insV (ownO L) := by rw [← insV_len]; simp [seg]
      refine ⟨fun _ => ?_, fun h => absurd h (by decide)⟩
      refine ⟨(ownO L, ownO L), ⟨hsg, rfl, by rw [← hn]; exact hsg, hn.symm, by simp only; omega⟩, ?_⟩
      refine ⟨.t (.s (.bool false)), fun β => told_b (by simp), rfl, ?_⟩
      refine ⟨fun h => absurd h (by decide), fun _ => ?_⟩
      show WpC _ _ _ _ _
      refine c_loop (α := Nat) (fun i => i ≤ (ownO L).length) (fun i => (ownO L).length - i)
        (fun i => [(3, .t (.s (.sl 1 0 (ownO L).length c)), none), (5, .t (.s (.sl 2 0 (joinB (ownO L)).length c1)), none), (9, .t (.s (.int .i64 ((joinB ((ownO L).take i)).length : Int))), none), (58, .t (.s (.int .i64 ((ownO L).length : Int))), none), (59, .t (.s (.int .i64 (i : Int))), none)])
        (fun _ => [.view (insV L), .view (insV (ownO L)), .view (bytesI (joinB (ownO L)))]) 0 (Nat.zero_le _) ?_ ?_
      · exact into [0, 2, 3] ⟨⟨_, rfl, by rw [hn]; rfl⟩, ⟨_, rfl, rfl⟩, ⟨_, rfl, rfl⟩, ⟨_, rfl, by rw [hn]; rfl⟩, ⟨_, rfl, rfl⟩, trivial⟩ ⟨_, rfl, rfl⟩ rfl rfl rfl rfl
      · intro i hi
        dsimp only
        refine c_run' tt_ok ctBk_ok k_l04_CodeBack [] 90 (by kernel_rfl) (by kernel_rfl) ?_
        refine ⟨fun h => ?_, fun h => ?_⟩
        · have hlt : i < (ownO L).length := by have := of_decide_eq_true h; omega
          obtain ⟨p, hp⟩ : ∃ p, (ownO L)[i]? = some p := ⟨_, List.getElem?_eq_getElem hlt⟩
          have hrow := row_at hp
          have hat := joinB_at hp
          obtain ⟨k1, k2, k3, k4, k5, k6⟩ := hG p (List.mem_of_getElem? hp)
          obtain ⟨f, v⟩ := p
          dsimp only at hrow hat k1 k2 k3 k4 k5 k6
          have hbl := joinB_len (ownO L)
          have hll : ((joinB (ownO L)).drop (joinB ((ownO L).take i)).length).length = (joinB (ownO L)).length - (joinB ((ownO L).take i)).length := List.length_drop
          have hle : (joinB ((ownO L).take i)).length ≤ (joinB (ownO L)).length := by
            conv => rhs; rw [← List.take_append_drop i (ownO L)]
            unfold joinB
            rw [List.flatMap_append, List.length_append]; omega
          have hsn := joinB_snoc hp
          have hgs := getS_put k2 k3 k4 k5 k6 (joinB ((ownO L).drop (i + 1)))
          rw [← hat] at hgs
          refine ⟨(joinB ((ownO L).take i)).length, (joinB (ownO L)).length, ⟨_, _, rfl, rfl, rfl, rfl⟩, ⟨hle, hc1⟩, ?_⟩
          refine ⟨(joinB (ownO L)).drop (joinB ((ownO L).take i)).length, ⟨?_, hll⟩, ?_⟩
          · rw [seg_bytesI, seg_bytesI, Nat.mul_one, Nat.mul_one, Nat.zero_add, List.drop_zero, List.take_take, Nat.min_self, List.take_of_length_le (by rw [hll]; exact Nat.le_refl _)]
          rw [hgs]
          dsimp only
          refine ⟨i, fun _ => ⟨rfl, hlt, by rw [insV_len]; simp only [Nat.zero_add, Nat.reduceAdd]; omega⟩, ?_⟩
          have hra : RowAt (insV (ownO L)) (0 + i * (1 + 1)) 2 [.int .u8 f, .int .i32 v] := ⟨Nat.le_refl 2, by rw [show 0 + i * (1 + 1) = i * 2 by omega]; exact hrow⟩
          refine ⟨[.int .u8 f, .int .i32 v], rfl, fun _ => hra, ?_⟩
          refine ⟨i, fun _ => ⟨rfl, hlt, by rw [insV_len]; simp only [Nat.zero_add, Nat.reduceAdd]; omega⟩, ?_⟩
          refine ⟨[.int .u8 f, .int .i32 v], rfl, fun _ => hra, ?_⟩
          have hlS : lenS f v = ((putF 7 f v).length : Int) := by unfold lenS; rw [if_pos k1]
          have hb : (bif bif (0 : Int) != 0 then true else !(f == f && (v == v && true)) then true else ((putF 7 f v).length : Int) != lenS f v) = false := by rw [hlS]; simp
          refine ⟨fun _ => putOk7 k6, fun h => absurd h (by rw [hb]; decide), fun _ => ?_⟩
          refine e_again (i + 1) (by omega) (by omega) (into [0, 1, 2] ⟨⟨_, rfl, rfl⟩, ⟨_, rfl, rfl⟩, ⟨_, rfl, fvi ?_⟩, ⟨_, rfl, rfl⟩, ⟨_, rfl, fvi (wrapSucc (by omega))⟩, trivial⟩ ⟨_, rfl, rfl⟩ rfl rfl rfl rfl)
          have hl8 : (putF 7 f v).length ≤ 8 := put_fits 7 8 _ v k6 (fits_i32 (Nat.le_refl _) k6)
          rw [hsn, List.length_append, wrap64 (by omega) (by omega)]
          simp
        · have hz : i = (ownO L).length := by have := of_decide_eq_false h; omega
          subst hz
          rw [List.take_length]
          exact fin_k tt_ok (rs := rs_l04_CodeBack) rfl rfl hK [0] (by rw [beq_self_eq_true]; rfl) rfl rfl rfl rfl rfl
theorem CodeBack_d (L : List (Int × Int)) (cl : Nat) (hg : ∀ e ∈ L, prGood e) (hcl : L.length ≤ cl) :
    Con Try.prog f_l04_CodeBack [.s (.sl 0 0 L.length cl)] [.view (L.map prVS).flatten] (.ret (.t (.s (.bool true))) [.view (L.map prVS).flatten]) := by
  rw [pr_flat]
  exact CodeBack_c L cl hg hcl
end Go.Proofs

namespace Go.Sx
open Go
def flatC : Ch → Prop
  | .own _ _ _ _ => True
  | .view _ => True
  | _ => False
theorem flatC_sat {c : Ch} (h : flatC c) {β β' : Nat → Bd} {b : Bd} {w : World} (hs : c.sat β b w) : c.sat β' b w := by
  cases c <;> first | exact hs | exact h.elim
theorem flatC_wf {c : Ch} (h : flatC c) (n : Nat) : c.wf n := by
  cases c <;> first | exact trivial | exact h.elim
/-- A call with a nil slice is the call with an empty one. -/
theorem tri_nil {P : Program} {f : FuncId} {K K2 : FV → List Ch → Prop} (h : CallS P f [.s (.sl 0 0 0 0)] [.view []] K)
    (hK : ∀ v σ, K v σ → ∃ v2 σ2, σ = .view [] :: σ2 ∧ K2 v2 σ2 ∧ (∀ β : Nat → Bd, v.den β = v2.den fun i => β (i + 1)) ∧ v2.wf σ2.length ∧ ∀ c ∈ σ2, flatC c) :
    CallS P f [.s (.raw (.slice none 0 0))] [] K2 := by
  refine ⟨fun β φ w hs => ?_⟩
  have hs' : Sat (fun _ => ⟨0, 0, true⟩) [.view []] φ w := by
    refine ⟨?_, ?_, ?_, hs.frame, ?_⟩
    · intro i j c d hi hj hij g hg
      rcases i with _ | i
      · cases hi; simp [Ch.foot] at hg
      · simp at hi
    · intro i c hi g hg
      rcases i with _ | i
      · cases hi; simp [Ch.foot] at hg
      · simp at hi
    · intro i c hi
      rcases i with _ | i
      · cases hi; exact fun j v hv => by simp at hv
      · simp at hi
    · intro c hc
      rw [List.mem_singleton.1 hc]; exact trivial
  refine (h.h _ φ w hs').mono ?_
  rintro e w' ⟨⟨v, σ⟩, β', hk, -, -, he, -, hsat, hsame, hsrc⟩
  obtain ⟨v2, σ2, rfl, k2, hden, hwf, hfl⟩ := hK v σ hk
  dsimp only at hsat hsrc he
  refine ⟨(v2, σ2), fun i => β' (i + 1), k2, fun i hi => absurd hi (Nat.not_lt_zero _), Nat.zero_le _, by rw [he, hden], hwf, ⟨?_, ?_, ?_, hsat.frame, ?_⟩, hsame, ?_⟩
  · intro i j c d hi hj hij g hg
    exact hsat.disj (i + 1) (j + 1) c d (by simpa using hi) (by simpa using hj) (by omega) g hg
  · intro i c hi g hg
    exact hsat.off (i + 1) c (by simpa using hi) g hg
  · intro i c hi
    exact flatC_sat (hfl c (List.mem_of_getElem? hi)) (hsat.sat (i + 1) c (by simpa using hi))
  · intro c hc
    exact flatC_wf (hfl c hc) _
  · intro l d hd g hg
    rcases hsrc (l + 1) d (by simpa using hd) g hg with h1 | h1
    · obtain ⟨i, c, hi, hg⟩ := h1
      rcases i with _ | i
      · cases hi; simp [Ch.rfoot, Ch.foot] at hg
      · simp at hi
    · exact .inr h1
/-- What is called with a row that is only read. -/
theorem own_view {P : Program} {f : FuncId} {args : List TV} {e sz cap : Nat} {xs : List Value} {K : FV → List Ch → Prop} (h : CallS P f args [.view xs] K) : CallS P f args [.own e sz cap xs] K := by
  refine ⟨fun β φ w hs => ?_⟩
  have hsub : ∀ g, g ∈ (Ch.view xs).rfoot (β 0) → g ∈ (Ch.own e sz cap xs).rfoot (β 0) := by
    intro g hg
    cases xs with
    | nil => simp [Ch.rfoot, Ch.foot] at hg
    | cons x xs =>
      simp [Ch.rfoot] at hg; subst hg
      have hn := (Ch.cells_at (hs.sat 0 _ rfl) (xs := x :: xs) rfl 0 x rfl).1
      simp [Ch.rfoot, Ch.foot, hn]
  have hs' : Sat β [.view xs] φ w := by
    have := hs.weak (i := 0) (c := .own e sz cap xs) (c' := .view xs) rfl (fun g hg => by simp [Ch.foot] at hg) hsub trivial (fun j v hv => Ch.cells_at (hs.sat 0 _ rfl) rfl j v hv)
    simpa using this
  refine (h.h β φ w hs').mono ?_
  rintro ed w' ⟨x, β', h1, h2, h3, h4, h5, h6, h7, h8⟩
  refine ⟨x, β', h1, h2, h3, h4, h5, h6, h7, fun l d hd g hg => ?_⟩
  rcases h8 l d hd g hg with ⟨i, c, hi, hg'⟩ | h8
  · rcases i with _ | i
    · cases hi; exact .inl ⟨0, _, rfl, hsub g hg'⟩
    · simp at hi
  · exact .inr h8
theorem c_merge {X : Cx} {c : Code} {Q : Exit → Act → World → Prop} {fr : Fr} {σ : List Ch} (fr' : Fr) (σ' : List Ch) (hw : WpE X Q .normal fr' σ' → WpC X c Q fr σ) (hc : WpE X Q .normal fr' σ') : WpC X c Q fr σ := hw hc
section
variable {X : Cx} {fr : Fr} {σ : List Ch}
/-- A row's last cells are spare room. -/
theorem trimRow (i k : Nat) {e sz cap : Nat} {xs : List Value} (hc : σ[i]? = some (.own e sz cap xs)) : InTo X fr σ fr (σ.set i (.own e sz cap (xs.take k))) := by
  intro β a w hr
  refine ⟨β, hr.defers, hr.size, hr.knows, by simpa using hr.frwf, ?_, hr.same, hr.agree, by simpa using hr.fits, ?_⟩
  · refine hr.mem.weak hc (fun g hg => hg) (fun g hg => hg) trivial ?_
    rcases hr.mem.sat i _ hc with ⟨h1, h2, h3⟩ | ⟨h1, sp, h2, h3⟩
    · exact .inl ⟨h1, by rw [h2]; simp, h3⟩
    · refine .inr ⟨h1, xs.drop k ++ sp, ?_, ?_⟩
      · rw [← List.append_assoc, List.take_append_drop]; exact h2
      · rw [← List.append_assoc, List.take_append_drop]; exact h3
  · intro l d hd g hg
    by_cases hil : i = l
    · subst hil
      have hlt := (List.getElem?_eq_some_iff.1 hc).1
      rw [List.getElem?_set_self hlt] at hd; cases hd
      exact hr.src i _ hc g hg
    · rw [List.getElem?_set_ne hil] at hd; exact hr.src l d hd g hg
end
end Go.Sx
namespace Go.Proofs
open Go Go.Sx
set_option maxRecDepth 10000
theorem make16_c (x : Int) : Con Try.prog f_l04_make16 [.s (.int .u8 x)] [] (.all Nat (fun c => 16 ≤ c) fun c => .ret (.t (.s (.sl 0 0 16 c))) [.own 5 1 c (bytesI (List.replicate 16 x))]) := by
  intro K hK
  refine enter fn_l04_make16 rfl nt_l04_make16 rfl rfl (fun φ w0 β0 F => ?_)
  refine c_run tt_ok (ct := []) trivial k_l04_make16 [] 90 (by kernel_rfl) ?_
  show WpC _ _ _ _ _
  refine WpC.into (nilSlot 3 5 1 rfl) ?_
  refine c_loop (α := Nat × Nat) (fun y => y.1 ≤ 16 ∧ y.1 ≤ y.2) (fun y => 16 - y.1)
    (fun y => [(0, .t (.s (.int .u8 x)), none), (3, .t (.s (.sl 0 0 y.1 y.2)), none), (4, .t (.s (.int .i64 (y.1 : Int))), none)])
    (fun y => [.own 5 1 y.2 (bytesI (List.replicate y.1 x))]) (0, 0) ⟨by decide, Nat.le_refl _⟩ ?_ ?_
  · exact into [0] ⟨⟨_, rfl, rfl⟩, ⟨_, rfl, rfl⟩, ⟨_, rfl, rfl⟩, trivial⟩ ⟨_, rfl, rfl⟩ rfl rfl rfl rfl
  · rintro ⟨i, c⟩ ⟨hi, hc⟩
    simp only at hi hc
    dsimp only
    refine c_run' tt_ok (ct := []) trivial k_l04_make16 [] 90 (by kernel_rfl) (by kernel_rfl) ?_
    refine ⟨fun h => ?_, fun h => ?_⟩
    · have hlt : i < 16 := by have := of_decide_eq_true h; omega
      refine ⟨⟨rfl, by simp [bytesI], Nat.le_refl _, fun u hu => ?_, by simp only [maxLen]; omega, by omega⟩, fun c' h1 _ => ?_⟩
      · rw [List.mem_singleton.1 (List.mem_of_mem_drop (List.mem_of_mem_take hu))]; rfl
      refine e_again (i + 1, c') ⟨by simp only; omega, by simpa using h1⟩ (by simp only; omega) (into [2] ⟨⟨_, rfl, rfl⟩, ⟨_, rfl, rfl⟩, ⟨_, rfl, fvi (wrapSucc (by omega))⟩, trivial⟩ ⟨_, rfl, ?_⟩ rfl rfl rfl rfl)
      dsimp only
      rw [List.replicate_succ', bytesI_append]; rfl
    · have hz : i = 16 := by have := of_decide_eq_false h; omega
      subst hz
      exact fin_k tt_ok (rs := rs_l04_make16) rfl rfl (hK c hc) [0] rfl rfl rfl rfl rfl rfl
noncomputable abbrev eMk : Ent := .st (conS (P := Try.prog) (f := f_l04_make16) fun cargs σ0 => match cargs, σ0 with
  | [.s (.int .u8 x)], [] => some ⟨.all Nat (fun c => 16 ≤ c) fun c => .ret (.t (.s (.sl 0 0 16 c))) [.own 5 1 c (bytesI (List.replicate 16 x))], make16_c x⟩
  | _, _ => none)
noncomputable abbrev ePutA : Ent := .st (conS (P := Try.prog) (f := f_code_Put) fun cargs σ0 => match cargs, σ0 with
  | [.agg [.int .u8 fn, .int .i32 v]], [] => some ⟨.ask (PutOk 7 v) (.all Nat (fun c => (putS fn v).length ≤ c) fun c => .ret (.tup [.s (.sl 0 0 (putS fn v).length c), .s (.int .i64 (putE fn))]) [.own 5 1 c (bytesI (putS fn v))]),
      fun _ h => tri_call (Put_all fn v h.1) h.2⟩
  | _, _ => none)
noncomputable abbrev ePadA : Ent := .st (conS (P := Try.prog) (f := f_code_Pad) fun cargs σ0 => match cargs, σ0 with
  | [.agg [.int .u8 fn, .int .i32 v], .s (.int .i64 n)], [] => some ⟨.ask ((-9223372036854775808 ≤ n ∧ n ≤ 9223372036854775807) ∧ PutOk 7 v) (.all Nat (fun c => (padS fn v n).length ≤ c) fun c => .ret (.tup [.s (.sl 0 0 (padS fn v n).length c), .s (.int .i64 (padE fn v n))]) [.own 5 1 c (bytesI (padS fn v n))]),
      fun _ h => tri_call (Pad_all fn v n h.1.1 h.1.2) h.2⟩
  | _, _ => none)
theorem Get_nil : Con Try.prog f_code_Get [.s (.raw (.slice none 0 0))] [] (.ret (.tup [.agg [.int .u8 0, .int .i32 0], .s (.int .i64 0), .s (.int .i64 40)]) []) := fun K hK =>
  tri_nil (K := fun v σ => v = .tup [.agg [.int .u8 0, .int .i32 0], .s (.int .i64 0), .s (.int .i64 40)] ∧ σ = [.view []]) (tri_call (Get_c [] 0) fun _ _ => ⟨rfl, rfl⟩)
    fun _ _ ⟨h1, h2⟩ => ⟨_, [], h2, hK, fun β => by rw [h1]; rfl, by simp [FV.wf, TV.wf, SV.wf], fun c hc => by simp at hc⟩
theorem All_nil : Con Try.prog f_code_All [.s (.raw (.slice none 0 0))] [] (.all Nat (fun _ => True) fun c => .ret (.tup [.s (.sl 0 0 0 c), .s (.int .i64 0)]) [.own 26 2 c []]) := fun K hK =>
  tri_nil (K := fun v σ => ∃ c, v = .tup [.s (.sl 1 0 0 c), .s (.int .i64 0)] ∧ σ = [.view [], .own 26 2 c []]) (All_c [] 0 (Nat.le_refl _) _ ⟨fun _ c _ => ⟨c, rfl, rfl⟩, fun h => by simp [allS, allA] at h⟩)
    fun _ _ ⟨c, h1, h2⟩ => ⟨.tup [.s (.sl 0 0 0 c), .s (.int .i64 0)], [.own 26 2 c []], h2, hK c trivial, fun β => by rw [h1]; rfl, by simp [FV.wf, TV.wf, SV.wf], fun c hc => by rw [List.mem_singleton.1 hc]; exact trivial⟩
def rdGetN : List RA → (Prop → Prop) → (FV → Prop) → Option Prop
  | [.row xs n c], ask, k => rdGet [.row xs n c] ask k
  | [.v (.s (.raw (.slice none 0 0)))], _, k => some (k (.tup [.agg [.int .u8 0, .int .i32 0], .s (.int .i64 0), .s (.int .i64 40)]))
  | _, _, _ => none
theorem re_getN : REok Try.prog f_code_Get rdGetN := ⟨cal_code_Get, fun args ask k R h hR => by
  unfold rdGetN at h
  split at h
  · exact re_get.2 _ ask k R h hR
  · cases h
    refine ⟨_, hR, rfl, fun _ => ?_⟩
    exact ⟨fun β φ w hs => ((Get_nil (fun v σ => v = .tup [.agg [.int .u8 0, .int .i32 0], .s (.int .i64 0), .s (.int .i64 40)] ∧ σ = []) ⟨rfl, rfl⟩).h β φ w hs).mono fun e w' ⟨x, β', ⟨q1, q2⟩, hr⟩ => by
      obtain ⟨v, σ⟩ := x
      dsimp only at q1 q2
      subst q1; subst q2
      exact ⟨(), β', trivial, hr⟩⟩
  · cases h⟩
noncomputable abbrev eAllN : Ent := .st (conS (P := Try.prog) (f := f_code_All) fun cargs σ0 => match cargs, σ0 with
  | [.s (.sl 0 0 n cap)], [.view xs] => some ⟨.ex (List Int) fun bs => .ask (n = bs.length ∧ xs = bytesI bs ∧ bs.length ≤ cap)
      (.br ((allS bs).2 == 0) (.all Nat (fun c => (allS bs).1.length ≤ c) fun c => .ret (.tup [.s (.sl 1 0 (allS bs).1.length c), .s (.int .i64 0)]) [.view (bytesI bs), .own 26 2 c (insV (allS bs).1)])
      (.ret (.tup [.s (.raw (.slice none 0 0)), .s (.int .i64 (allS bs).2)]) [.view (bytesI bs)])), fun K h => by
      obtain ⟨bs, ⟨e1, e2, h1⟩, h⟩ := h
      subst e1; subst e2
      exact All_c bs cap h1 K h⟩
  | [.s (.raw (.slice none 0 0))], [] => some ⟨.all Nat (fun _ => True) fun c => .ret (.tup [.s (.sl 0 0 0 c), .s (.int .i64 0)]) [.own 26 2 c []], All_nil⟩
  | _, _ => none)
noncomputable abbrev eJoinO : Ent := .st (conS (P := Try.prog) (f := f_code_Join) fun cargs σ0 => match cargs, σ0 with
  | [.s (.sl 0 0 n cap)], [.view xs] => some ⟨.ex (List (Int × Int)) fun L => .ask (n = L.length ∧ xs = insV L ∧ GoodL L ∧ L.length ≤ cap ∧ L.length ≤ 40000)
      (.br (joinE L == 0) (.all Nat (fun c => (joinB L).length ≤ c) fun c => .ret (.tup [.s (.sl 1 0 (joinB L).length c), .s (.int .i64 0)]) [.view (insV L), .own 5 1 c (bytesI (joinB L))])
      (.ret (.tup [.s (.raw (.slice none 0 0)), .s (.int .i64 (joinE L))]) [.view (insV L)])), fun K h => by
      obtain ⟨L, ⟨e1, e2, h1, h2, h3⟩, h⟩ := h
      subst e1; subst e2
      exact Join_c L cap h1 h2 h3 K h⟩
  | [.s (.sl 0 0 n cap)], [.own 26 2 _ xs] => some ⟨.ex (List (Int × Int)) fun L => .ask (n = L.length ∧ xs = insV L ∧ GoodL L ∧ L.length ≤ cap ∧ L.length ≤ 40000)
      (.br (joinE L == 0) (.all Nat (fun c => (joinB L).length ≤ c) fun c => .ret (.tup [.s (.sl 1 0 (joinB L).length c), .s (.int .i64 0)]) [.view (insV L), .own 5 1 c (bytesI (joinB L))])
      (.ret (.tup [.s (.raw (.slice none 0 0)), .s (.int .i64 (joinE L))]) [.view (insV L)])), fun K h => by
      obtain ⟨L, ⟨e1, e2, h1, h2, h3⟩, h⟩ := h
      subst e1; subst e2
      exact own_view (Join_c L cap h1 h2 h3 K h)⟩
  | _, _ => none)
noncomputable abbrev ctKn : CT := [(f_l04_works, .pure sp13), (f_l04_puts, .pure sp26), (f_code_Put, ePutA), (f_code_Pad, ePadA), (f_code_Len, .pure sp15), (f_code_Get, .rd rdGetN), (f_l04_make16, eMk), (f_code_All, eAllN), (f_code_Join, eJoinO), (f_r04_Same, .rd rdSame)]
theorem ctKn_ok : CTok Try.prog ctKn := ⟨ce13, ce26, con_ok cal_code_Put _, con_ok cal_code_Pad _, ce15, re_getN, con_ok cal_l04_make16 _, con_ok cal_code_All _, con_ok cal_code_Join _, re_same, trivial⟩
end Go.Proofs

namespace Go.Proofs
open Go Go.Sx
set_option maxRecDepth 10000
theorem l_trim {X : Cx} {fr : Fr} {σ : List Ch} (i k : Nat) {all l : List Oper} {Q : Exit → Act → World → Prop} {e sz cap : Nat} {xs : List Value} (hc : σ[i]? = some (.own e sz cap xs)) (h : forceL (σ.set i (.own e sz cap (xs.take k))) fun σ' => WpL X all Q l fr σ') : WpL X all Q l fr σ := by
  rw [forceL_eq] at h
  exact h.into (trimRow i k hc)
theorem zeros_c (n : Nat) : List.replicate n (Value.int .u8 0) = bytesI (List.replicate n 0) := by unfold bytesI; rw [List.map_replicate]
theorem joinB_zeros : ∀ n : Nat, joinB (List.replicate n (0, 0)) = List.replicate n 0
  | 0 => rfl
  | n + 1 => by rw [List.replicate_succ, joinB_cons, joinB_zeros n, List.replicate_succ]; rfl
theorem goodO_zeros (n : Nat) : GoodO (List.replicate n (0, 0)) := fun p hp => by
  rw [(List.mem_replicate.1 hp).2]; exact ⟨by decide, by decide, by decide, by decide, by decide, by decide, by decide⟩
theorem zeros_far {n : Nat} (h : 32768 < n) : allS (List.replicate n 0) = ([], 3) := by
  unfold allS; rw [if_pos (by rw [List.length_replicate]; omega)]
theorem zeros_all {n : Nat} (h : n ≤ 32768) : allS (List.replicate n 0) = (List.replicate n (0, 0), 0) := by
  unfold allS
  rw [if_neg (by rw [List.length_replicate]; omega), ← joinB_zeros n, allA_join _ _ [] (goodO_zeros n) (Nat.le_refl _)]
  rfl
theorem allV_zeros (n : Nat) : allV (List.replicate n (0, 0)) = true := by
  unfold allV; rw [List.all_eq_true]; exact fun p hp => (goodO_zeros n p hp).1
theorem join_far {n : Nat} (h : n = 32768) : joinE (List.replicate n (0, 0) ++ [(4, 5)]) = 3 := by
  unfold joinE
  have h1 : allV (List.replicate n (0, 0) ++ [(4, 5)]) = true := by
    have := allV_zeros n
    unfold allV at this ⊢
    rw [List.all_append, this]; decide
  have h2 : (joinB (List.replicate n (0, 0) ++ [(4, 5)])).length = n + 1 := by
    have e : joinB (List.replicate n (0, 0) ++ [(4, 5)]) = joinB (List.replicate n (0, 0)) ++ joinB [(4, 5)] := List.flatMap_append
    rw [e, joinB_zeros, List.length_append, List.length_replicate]; rfl
  rw [if_pos h1, if_pos (by omega)]
theorem join_bad (n : Nat) : joinE (List.replicate n (0, 0) ++ [(4, 5), (2, 0)]) = 2 := by
  unfold joinE
  rw [if_neg]
  unfold allV
  rw [List.all_append]
  simp
  intro _ _; decide
theorem join_zeros {n : Nat} (h : n ≤ 32768) : joinE (List.replicate n (0, 0)) = 0 := by
  unfold joinE
  rw [if_pos (allV_zeros n), joinB_zeros, if_neg (by rw [List.length_replicate]; omega)]
theorem i7 {v : Int} (h : -2147483648 ≤ v ∧ v ≤ 2147483647) : PutOk 7 v := putOk7 h
set_option maxHeartbeats 4000000 in
theorem CodeKnown_c : Con Try.prog f_l04_CodeKnown [] [] (.ret (.t (.s (.bool true))) []) := by
  intro K hK
  refine enter fn_l04_CodeKnown rfl nt_l04_CodeKnown rfl rfl (fun φ w0 β0 F => ?_)
  refine c_run tt_ok ctKn_ok k_l04_CodeKnown [100048, 100050, 100053, 100056, 100059, 100062, 100065, 100097, 100101, 100106, 100110, 100114, 100118, 100122, 100127, 144] 90 (by kernel_rfl) ?_
  refine ⟨⟨by decide, putOk_i32 (by decide) (by decide)⟩, ?_⟩
  refine ⟨.t (.s (.bool true)), fun β => told_tr (by decide), rfl, ?_⟩
  refine ⟨fun _ => ⟨by decide, putOk_i32 (by decide) (by decide)⟩, ?_⟩
  refine ⟨.t (.s (.bool true)), fun β => told_tr (by decide), rfl, ?_⟩
  refine ⟨fun _ => ⟨by decide, putOk_i32 (by decide) (by decide)⟩, ?_⟩
  refine ⟨.t (.s (.bool true)), fun β => told_tr (by decide), rfl, ?_⟩
  refine ⟨fun _ => ⟨by decide, putOk_i32 (by decide) (by decide)⟩, ?_⟩
  refine ⟨.t (.s (.bool true)), fun β => told_tr (by decide), rfl, ?_⟩
  refine ⟨fun _ => ⟨by decide, putOk_i32 (by decide) (by decide)⟩, ?_⟩
  refine ⟨.t (.s (.bool true)), fun β => told_tr (by decide), rfl, ?_⟩
  refine ⟨fun _ => ⟨by decide, putOk_i32 (by decide) (by decide)⟩, ?_⟩
  refine ⟨.t (.s (.bool true)), fun β => told_tr (by decide), rfl, ?_⟩
  refine ⟨fun _ => ⟨by decide, putOk_i32 (by decide) (by decide)⟩, ?_⟩
  refine ⟨.t (.s (.bool true)), fun β => told_tr (by decide), rfl, ?_⟩
  refine ⟨i7 (by decide), fun c1 g1 => ?_⟩
  refine ⟨i7 (by decide), fun c2 g2 => ?_⟩
  refine ⟨⟨by decide, i7 (by decide)⟩, fun c3 g3 => ?_⟩
  refine ⟨⟨by decide, i7 (by decide)⟩, fun c4 g4 => ?_⟩
  refine ⟨⟨by decide, i7 (by decide)⟩, fun c5 g5 => ?_⟩
  refine ⟨⟨by decide, i7 (by decide)⟩, fun c6 g6 => ?_⟩
  refine ⟨.t (.s (.bool true)), fun β => told_tr (by decide), rfl, ?_⟩
  refine ⟨.t (.s (.bool true)), fun β => told_tr (by decide), rfl, ?_⟩
  refine ⟨padS 4 5 3, fun _ => ⟨by rw [seg_bytesI, List.drop_zero, List.take_length]; rfl, rfl⟩, ?_⟩
  refine ⟨.t (.s (.bool true)), fun β => told_tr (by decide), rfl, ?_⟩
  refine ⟨.t (.s (.bool true)), fun β => told_tr (by decide), rfl, ?_⟩
  refine ⟨.t (.s (.bool true)), fun β => told_tr (by decide), rfl, ?_⟩
  refine ⟨.t (.s (.bool true)), fun β => told_tr (by decide), rfl, ?_⟩
  refine ⟨.t (.s (.bool true)), fun β => told_tr (by decide), rfl, ?_⟩
  refine ⟨fun _ => i7 (by decide), ?_⟩
  refine ⟨.t (.s (.bool true)), fun β => told_tr (by decide), rfl, ?_⟩
  refine ⟨[97], ⟨rfl, rfl⟩, ?_⟩
  refine fun c7 g7 => ?_
  refine ⟨List.replicate 16 32, ⟨rfl, rfl⟩, ?_⟩
  refine fun c8 g8 => ?_
  have g8' : 16 ≤ c8 := g8
  refine ⟨0, 15, ⟨_, _, rfl, rfl, rfl, rfl⟩, ⟨by decide, by omega⟩, ?_⟩
  intro off' ho
  have ho' : off' = 0 := ho (by omega)
  subst ho'
  refine l_trim 11 15 rfl ?_
  refine l_run (ct := ctKn) tt_ok ctKn_ok k_l04_CodeKnown [100155, 100159, 100164, 100168, 100172, 100176] 90 rfl (by kernel_rfl) ?_
  refine ⟨⟨Nat.sub_zero _, rfl, by decide, fun u hu => ?_, by simp only [maxLen]; omega, by omega⟩, fun c9 g9 _ => ?_⟩
  · rw [List.mem_singleton.1 (List.mem_of_mem_drop (List.mem_of_mem_take hu))]; rfl
  refine ⟨List.replicate 15 32 ++ [69], ⟨rfl, rfl⟩, ?_⟩
  refine ⟨.t (.s (.bool true)), fun β => told_tr (by decide), rfl, ?_⟩
  refine ⟨.t (.s (.bool true)), fun β => told_tr (by decide), rfl, ?_⟩
  refine ⟨.t (.s (.bool true)), fun β => told_tr (by decide), rfl, ?_⟩
  refine ⟨.t (.s (.bool true)), fun β => told_tr (by decide), rfl, ?_⟩
  refine ⟨.t (.s (.bool true)), fun β => told_tr (by decide), rfl, ?_⟩
  refine ⟨.t (.s (.bool true)), fun β => told_tr (by decide), rfl, ?_⟩
  refine WpL.into (fr' := [(178, .t (.s (.sl 1 0 2 2)), none), (0, .t (.s (.bool false)), none), (1, .t (.s (.loc 0 0)), none), (2, .t (.s (.bool true)), none), (15, .t (.s (.bool true)), none), (28, .t (.s (.bool true)), none)])
    (σ' := [.blk 26 [.int .u8 4, .int .i32 5], .own 5 1 2 (bytesI [69, 245])]) (into [0, 16] ⟨⟨_, rfl, rfl⟩, ⟨_, rfl, rfl⟩, ⟨_, rfl, rfl⟩, ⟨_, rfl, rfl⟩, ⟨_, rfl, rfl⟩, ⟨_, rfl, rfl⟩, trivial⟩ ⟨_, rfl, rfl⟩ rfl rfl rfl rfl) ?_
  refine l_freeze 1 rfl rfl ?_
  refine l_run (ct := ctKn) tt_ok ctKn_ok k_l04_CodeKnown [] 90 rfl (by kernel_rfl) ?_
  have hA1 : allS [69, 245] = ([(4, 5), (15, 5)], 0) := by decide
  have hA2 : allS [69, 37] = ([], 40) := by decide
  refine ⟨[69, 245], ⟨rfl, rfl, Nat.le_refl _⟩, ?_⟩
  rw [hA1]
  refine ⟨fun _ d1 h1 => ?_, fun h => absurd h (by decide)⟩
  refine l_freeze 3 rfl rfl ?_
  refine l_run (ct := ctKn) tt_ok ctKn_ok k_l04_CodeKnown [] 90 rfl (by kernel_rfl) ?_
  refine ⟨[69, 37], ⟨rfl, rfl, Nat.le_refl _⟩, ?_⟩
  rw [hA2]
  refine ⟨fun h => absurd h (by decide), fun _ => ?_⟩
  refine fun d2 _ => ?_
  obtain ⟨N, hN⟩ : ∃ N : Nat, N = 32769 := ⟨_, rfl⟩
  obtain ⟨M, hM⟩ : ∃ M : Nat, M = 32768 := ⟨_, rfl⟩
  refine ⟨N, ⟨by omega, by omega, by simp only [maxLen]; omega, by omega⟩, ?_⟩
  refine l_freeze 5 (xs := bytesI (List.replicate N 0)) rfl (congrArg some (zeros_c N)) ?_
  refine l_run (ct := ctKn) tt_ok ctKn_ok k_l04_CodeKnown [] 90 rfl (by kernel_rfl) ?_
  refine ⟨List.replicate N 0, ⟨List.length_replicate.symm, rfl, by rw [List.length_replicate]; omega⟩, ?_⟩
  rw [zeros_far (by omega)]
  refine ⟨fun h => absurd h (by decide), fun _ => ?_⟩
  refine ⟨M, ⟨by omega, by omega, by simp only [maxLen]; omega, by omega⟩, ?_⟩
  refine l_freeze 6 (xs := bytesI (List.replicate M 0)) rfl (congrArg some (zeros_c M)) ?_
  refine l_run (ct := ctKn) tt_ok ctKn_ok k_l04_CodeKnown [205] 90 rfl (by kernel_rfl) ?_
  refine ⟨List.replicate M 0, ⟨List.length_replicate.symm, rfl, by rw [List.length_replicate]; omega⟩, ?_⟩
  rw [zeros_all (by omega)]
  refine ⟨fun _ d3 h3 => ?_, fun h => absurd h (by simp)⟩
  have h3' : M ≤ d3 := by simpa using h3
  refine WpL.into (fr' := [(202, .t (.s (.sl 3 0 M d3)), none), (204, .t (.s (.sl 4 0 1 1)), none), (0, .t (.s (.bool false)), none), (1, .t (.s (.loc 0 0)), none), (2, .t (.s (.bool true)), none), (15, .t (.s (.bool true)), none), (28, .t (.s (.bool true)), none), (29, .t (.s (.sl 1 0 2 d1)), none), (30, .t (.s (.int .i64 0)), none), (32, .t (.s (.int .i64 40)), none), (33, .t (.s (.sl 2 0 0 d2)), none), (34, .t (.s (.int .i64 0)), none), (36, .t (.s (.int .i64 3)), none), (37, .t (.s (.sl 3 0 M d3)), none), (38, .t (.s (.int .i64 0)), none)])
    (σ' := [.blk 26 [.int .u8 4, .int .i32 5], .own 26 2 d1 (insV [(4, 5), (15, 5)]), .own 26 2 d2 [], .own 26 2 d3 (insV (List.replicate M (0, 0))), .own 26 2 1 (insV [(4, 5)])])
    (into [0, 2, 4, 7, 8] ⟨⟨_, rfl, by dsimp only; rw [List.length_replicate]; rfl⟩, ⟨_, rfl, rfl⟩, ⟨_, rfl, rfl⟩, ⟨_, rfl, rfl⟩, ⟨_, rfl, rfl⟩, ⟨_, rfl, rfl⟩, ⟨_, rfl, rfl⟩, ⟨_, rfl, rfl⟩, ⟨_, rfl, rfl⟩, ⟨_, rfl, rfl⟩, ⟨_, rfl, rfl⟩, ⟨_, rfl, rfl⟩, ⟨_, rfl, rfl⟩, ⟨_, rfl, by dsimp only; rw [List.length_replicate]; rfl⟩, ⟨_, rfl, rfl⟩, trivial⟩ ⟨_, rfl, rfl⟩ rfl rfl rfl rfl) ?_
  refine l_append2 (e := 26) (sz := 2) tt_ok rfl rfl rfl rfl rfl rfl rfl rfl rfl rfl rfl rfl rfl rfl rfl rfl (by decide) rfl rfl (by decide) (by rw [insV_len, List.length_replicate]) (fun u hu => ?_) (by simp only [maxLen]; omega) (by omega) (fun c' k1 k2 => ?_)
  · exact insV_one _ u (List.mem_of_mem_drop (List.mem_of_mem_take hu))
  refine l_run (ct := ctKn) tt_ok ctKn_ok k_l04_CodeKnown [215] 90 rfl (by kernel_rfl) ?_
  have hz : ∀ p ∈ List.replicate M ((0, 0) : Int × Int), InI32 p.2 := fun p hp => by rw [(List.mem_replicate.1 hp).2]; exact ⟨by decide, by decide⟩
  refine ⟨List.replicate M (0, 0) ++ [(4, 5)], ⟨by simp, by rw [insV_append]; rfl, ⟨fun p hp => ?_, by simpa using k1, by rw [List.length_append, List.length_replicate, List.length_singleton]; omega⟩⟩, ?_⟩
  · rcases List.mem_append.1 hp with h | h
    · exact hz p h
    · rw [List.mem_singleton.1 h]; exact ⟨by decide, by decide⟩
  have hj1 : joinE (List.replicate M (0, 0) ++ [(4, 5)]) = 3 := join_far (by omega)
  rw [hj1]
  refine ⟨fun h => absurd h (by decide), fun _ => ?_⟩
  refine ⟨List.replicate M (0, 0), ⟨by simp, rfl, ⟨hz, by simpa using h3', by rw [List.length_replicate]; omega⟩⟩, ?_⟩
  have hj2 : joinE (List.replicate M (0, 0)) = 0 := join_zeros (by omega)
  rw [hj2]
  refine ⟨fun _ d4 h4 => ?_, fun h => absurd h (by decide)⟩
  refine WpC.into (fr' := [(0, .t (.s (.bool false)), none), (1, .t (.s (.loc 0 0)), none), (2, .t (.s (.bool true)), none), (15, .t (.s (.bool true)), none), (28, .t (.s (.bool true)), none), (29, .t (.s (.sl 1 0 2 d1)), none), (30, .t (.s (.int .i64 0)), none), (32, .t (.s (.int .i64 40)), none), (33, .t (.s (.sl 2 0 0 d2)), none), (34, .t (.s (.int .i64 0)), none), (36, .t (.s (.int .i64 3)), none), (37, .t (.s (.sl 3 0 M d3)), none), (38, .t (.s (.int .i64 0)), none), (40, .t (.s (.int .i64 3)), none), (41, .t (.s (.sl 4 0 M d4)), none), (42, .t (.s (.int .i64 0)), none)])
    (σ' := [.blk 26 [.int .u8 4, .int .i32 5], .own 26 2 d1 (insV [(4, 5), (15, 5)]), .own 26 2 d2 [], .view (insV (List.replicate M (0, 0))), .own 5 1 d4 (bytesI (List.replicate M 0))])
    (into [0, 1, 2, 3, 6] ⟨⟨_, rfl, rfl⟩, ⟨_, rfl, rfl⟩, ⟨_, rfl, rfl⟩, ⟨_, rfl, rfl⟩, ⟨_, rfl, rfl⟩, ⟨_, rfl, rfl⟩, ⟨_, rfl, rfl⟩, ⟨_, rfl, rfl⟩, ⟨_, rfl, rfl⟩, ⟨_, rfl, rfl⟩, ⟨_, rfl, rfl⟩, ⟨_, rfl, rfl⟩, ⟨_, rfl, rfl⟩, ⟨_, rfl, rfl⟩, ⟨_, rfl, by rw [joinB_zeros, List.length_replicate]; rfl⟩, ⟨_, rfl, rfl⟩, trivial⟩ ⟨_, rfl, by rw [joinB_zeros]; rfl⟩ rfl rfl rfl rfl) ?_
  refine c_merge [(0, .t (.s (.bool false)), none), (1, .t (.s (.loc 0 0)), none), (2, .t (.s (.bool true)), none), (15, .t (.s (.bool true)), none), (28, .t (.s (.bool true)), none), (29, .t (.s (.sl 1 0 2 d1)), none), (30, .t (.s (.int .i64 0)), none), (32, .t (.s (.int .i64 40)), none), (33, .t (.s (.sl 2 0 0 d2)), none), (34, .t (.s (.int .i64 0)), none), (36, .t (.s (.int .i64 3)), none), (37, .t (.s (.sl 3 0 M d3)), none), (38, .t (.s (.int .i64 0)), none), (40, .t (.s (.int .i64 3)), none), (41, .t (.s (.sl 4 0 M d4)), none), (42, .t (.s (.int .i64 0)), none), (44, .t (.s (.int .i64 2)), none)]
    [.blk 26 [.int .u8 4, .int .i32 5], .own 26 2 d1 (insV [(4, 5), (15, 5)]), .own 26 2 d2 [], .view (insV (List.replicate M (0, 0))), .own 5 1 d4 (bytesI (List.replicate M 0))] (fun key => ?ways) ?cont
  case ways =>
    refine c_waysH tt_ok ctKn_ok k_l04_CodeKnown [0] rfl rfl rfl ?_
    have hA : 0 + M * 2 ≤ (insV (List.replicate M (0, 0))).length := by rw [insV_len, List.length_replicate]; omega
    have hB : ∀ u ∈ seg (insV (List.replicate M (0, 0))) 0 (M * 2), u.oneCell' = true := fun u hu => insV_one _ u (List.mem_of_mem_drop (List.mem_of_mem_take hu))
    have hC : 0 + M ≤ maxLen := by simp only [maxLen]; omega
    have hD : (0 + M) * 8 ≤ 140737488355328 := by omega
    have hseg : seg (insV (List.replicate M (0, 0))) 0 (M * 2) = insV (List.replicate M (0, 0)) := by
      have : M * 2 = (insV (List.replicate M (0, 0))).length := by rw [insV_len, List.length_replicate]
      rw [this]; simp [seg]
    have hE : (List.map SV.cv [] ++ seg (insV (List.replicate M (0, 0))) 0 (M * 2)).length = (0 + M) * 2 := by
      rw [hseg, List.length_append, insV_len, List.length_replicate]; simp
    have hF : 0 + M + 2 ≤ maxLen := by simp only [maxLen]; omega
    have hG : (0 + M + 2) * 8 ≤ 140737488355328 := by omega
    have hH : List.map SV.cv [] ++ seg (insV (List.replicate M (0, 0))) 0 (M * 2) ++ seg (List.map SV.cv [SV.int .u8 4, .int .i32 5, .int .u8 2, .int .i32 0]) 0 (2 * 2) = insV (List.replicate M (0, 0) ++ [(4, 5), (2, 0)]) := by
      rw [hseg, insV_append]; rfl
    have hI : 0 + M + 2 = (List.replicate M ((0, 0) : Int × Int) ++ [(4, 5), (2, 0)]).length := by simp
    have hJ : GoodL (List.replicate M (0, 0) ++ [(4, 5), (2, 0)]) := fun p hp => by
      rcases List.mem_append.1 hp with h | h
      · exact hz p h
      · rcases List.mem_cons.1 h with rfl | h
        · exact ⟨by decide, by decide⟩
        · rw [List.mem_singleton.1 h]; exact ⟨by decide, by decide⟩
    have hK' : (List.replicate M ((0, 0) : Int × Int) ++ [(4, 5), (2, 0)]).length ≤ 40000 := by rw [← hI]; omega
    have hL : joinE (List.replicate M (0, 0) ++ [(4, 5), (2, 0)]) = 2 := join_bad M
    repeat' (first
      | exact trivial
      | exact ⟨rfl, trivial⟩
      | (refine And.intro ⟨rfl, rfl, hA, hB, hC, hD⟩ (fun c1 k1 _ => ?_))
      | (refine And.intro ⟨rfl, hE, by decide, fun u hu => insV_one [(4, 5), (2, 0)] u (List.mem_of_mem_drop (List.mem_of_mem_take hu)), hF, hG⟩ (fun c2 k2 _ => ?_))
      | (refine Exists.intro (List.replicate M (0, 0) ++ [(4, 5), (2, 0)]) ?_; refine And.intro ⟨hI, hH, hJ, by rw [← hI]; assumption, hK'⟩ ?_; rw [hL]; refine And.intro (fun h => absurd h (by decide)) (fun _ => ?_))
      | (refine And.intro ?_ ?_))
    all_goals
      refine WpE.into ?_ key
      exact into [0, 1, 2, 3, 4] ⟨⟨_, rfl, rfl⟩, ⟨_, rfl, rfl⟩, ⟨_, rfl, rfl⟩, ⟨_, rfl, rfl⟩, ⟨_, rfl, rfl⟩, ⟨_, rfl, rfl⟩, ⟨_, rfl, rfl⟩, ⟨_, rfl, rfl⟩, ⟨_, rfl, rfl⟩, ⟨_, rfl, rfl⟩, ⟨_, rfl, rfl⟩, ⟨_, rfl, rfl⟩, ⟨_, rfl, rfl⟩, ⟨_, rfl, rfl⟩, ⟨_, rfl, rfl⟩, ⟨_, rfl, rfl⟩, ⟨_, rfl, rfl⟩, trivial⟩ ⟨_, rfl, rfl⟩ rfl rfl rfl rfl
  refine e_run (ct := ctKn) tt_ok ctKn_ok k_l04_CodeKnown [100230, 100233, 100237, 100242, 100246, 100250, 100254, 100259, 100263, 100268, 100272, 100276, 100280, 100283, 100286] 90 (by kernel_rfl) ?_
  refine ⟨([(4, 5), (15, 5)], [(4, 5), (15, 5)]), ⟨rfl, rfl, rfl, rfl, by decide⟩, ?_⟩
  refine ⟨.t (.s (.bool true)), fun β => told_tr (by simp), rfl, ?_⟩
  refine ⟨.t (.s (.bool true)), fun β => told_tr (by simp), rfl, ?_⟩
  refine ⟨.t (.s (.bool true)), fun β => told_tr (by simp), rfl, ?_⟩
  refine ⟨.t (.s (.bool true)), fun β => told_tr (by simp), rfl, ?_⟩
  refine ⟨.t (.s (.bool true)), fun β => told_tr (by simp), rfl, ?_⟩
  refine ⟨.t (.s (.bool true)), fun β => told_tr (by simp), rfl, ?_⟩
  refine ⟨.t (.s (.bool true)), fun β => told_tr (by simp), rfl, ?_⟩
  refine ⟨.t (.s (.bool true)), fun β => told_tr (by simp [hM]), rfl, ?_⟩
  refine ⟨.t (.s (.bool true)), fun β => told_tr (by simp), rfl, ?_⟩
  refine ⟨.t (.s (.bool true)), fun β => told_tr (by simp [hM]), rfl, ?_⟩
  refine ⟨.t (.s (.bool true)), fun β => told_tr (by simp), rfl, ?_⟩
  refine ⟨.t (.s (.bool true)), fun β => told_tr (by simp), rfl, ?_⟩
  refine ⟨.t (.s (.bool true)), fun β => told_tr (by simp), rfl, ?_⟩
  refine ⟨.t (.s (.bool true)), fun β => told_tr (by simp), rfl, ?_⟩
  refine ⟨.t (.s (.bool true)), fun β => told_tr (by simp), rfl, ?_⟩
  refine ⟨fun _ => trivial, ?_⟩
  exact fin_k tt_ok (rs := rs_l04_CodeKnown) rfl rfl hK [] rfl rfl rfl rfl rfl rfl
end Go.Proofs
