/- CodeBack: the law and the walk. -/
import Derived.Test.YtbefefoegbfamaaWalkC

namespace Go.Proofs
open Go Go.Sx
set_option maxRecDepth 10000
def ownO (L : List (Int × Int)) : List (Int × Int) := (L.take 60).map fun p => (fixS p.1, p.2)
def GoodO (O : List (Int × Int)) : Prop := ∀ p ∈ O, validS p.1 = true ∧ 0 ≤ p.1 ∧ p.1 ≤ 15 ∧ p.1 ≠ 2 ∧ p.1 ≠ 6 ∧ InI32 p.2
theorem pr_rng {p : Int × Int} (h : prGood p) : 0 ≤ p.1 ∧ p.1 ≤ 255 ∧ InI32 p.2 := by
  obtain ⟨h1, h2⟩ := h
  have := i32_fit h2
  simp [Lit.wf, IntKind.min, IntKind.max, IntKind.signed, IntKind.bits] at h1
  exact ⟨by omega, by omega, this⟩
theorem told_b {b c : Bool} {β : Nat → Bd} (h : b = c) : (FV.t (.s (.bool c))).den β = (FV.t (.s (.bool b))).den β := by rw [h]
theorem ownO_len (L : List (Int × Int)) : (ownO L).length = min 60 L.length := by simp [ownO]
theorem ownO_good {L : List (Int × Int)} (g : ∀ e ∈ L, prGood e) : GoodO (ownO L) := fun p hp => by
  obtain ⟨q, hq, rfl⟩ := List.mem_map.1 hp
  obtain ⟨h1, h2, h3⟩ := pr_rng (g q (List.mem_of_mem_take hq))
  obtain ⟨k1, k2, k3, k4, k5⟩ := fix_law h1 h2
  exact ⟨k1, k2, k3, k4, k5, h3⟩
theorem getS_put {f v : Int} (h1 : 0 ≤ f) (h2 : f ≤ 15) (h3 : f ≠ 2) (h4 : f ≠ 6) (hv : InI32 v) (rest : List Int) : getS (putF 7 f v ++ rest) = (f, v, ((putF 7 f v).length : Int), 0) := by
  have hl : (putF 7 f v).length ≤ 8 := put_fits 7 8 _ v hv (fits_i32 (Nat.le_refl _) hv)
  have ht : (putF 7 f v ++ rest).take 16 = putF 7 f v ++ rest.take (16 - (putF 7 f v).length) := by
    rw [List.take_append, List.take_of_length_le (by omega)]
  have hgp := get_put 7 f v 0 (rest.take (16 - (putF 7 f v).length)) h1 h2 hv (putOk7 hv)
  simp only [stepG, h3, h4, if_false, Nat.zero_add] at hgp
  simp only [getS, ht, hgp]
theorem joinB_cons (p : Int × Int) (t : List (Int × Int)) : joinB (p :: t) = putF 7 p.1 p.2 ++ joinB t := rfl
theorem allA_join : ∀ (O : List (Int × Int)) (f : Nat) (acc : List (Int × Int)), GoodO O → (joinB O).length ≤ f → allA f (joinB O) acc = (acc ++ O, 0)
  | [], f, acc, _, _ => by
    cases f with
    | zero => simp [allA]
    | succ f => simp [allA, joinB]
  | p :: t, f, acc, g, hf => by
    obtain ⟨k1, k2, k3, k4, k5, k6⟩ := g p (List.mem_cons_self ..)
    have hp := putF_pos 7 p.1 p.2
    rw [joinB_cons, List.length_append] at hf
    cases f with
    | zero => omega
    | succ f =>
      rw [joinB_cons, allA, if_neg (by rw [List.length_append]; omega), getS_put k2 k3 k4 k5 k6]
      simp only [if_true, Int.toNat_natCast, List.drop_left]
      rw [allA_join t f _ (fun q hq => g q (List.mem_cons_of_mem _ hq)) (by omega), List.append_assoc]
      rfl
theorem allS_join {O : List (Int × Int)} (g : GoodO O) (h : O.length ≤ 60) : allS (joinB O) = (O, 0) := by
  have := joinB_len O
  unfold allS
  rw [if_neg (by omega), allA_join O _ [] g (Nat.le_refl _)]
  rfl
theorem joinE_good {O : List (Int × Int)} (g : GoodO O) (h : O.length ≤ 60) : joinE O = 0 := by
  have := joinB_len O
  unfold joinE
  rw [if_pos (by unfold allV; rw [List.all_eq_true]; exact fun p hp => (g p hp).1), if_neg (by omega)]
theorem joinB_at {O : List (Int × Int)} {i : Nat} {p : Int × Int} (h : O[i]? = some p) : (joinB O).drop (joinB (O.take i)).length = putF 7 p.1 p.2 ++ joinB (O.drop (i + 1)) := by
  have e : O = O.take i ++ p :: O.drop (i + 1) := by
    obtain ⟨hi, rfl⟩ := List.getElem?_eq_some_iff.1 h
    rw [List.getElem_cons_drop, List.take_append_drop]
  have : joinB O = joinB (O.take i) ++ (putF 7 p.1 p.2 ++ joinB (O.drop (i + 1))) := by
    conv => lhs; rw [e]
    unfold joinB
    rw [List.flatMap_append]; rfl
  rw [this, List.drop_left]
noncomputable abbrev ctBk : CT := [(f_l04_works, .pure sp13), (f_l04_fix, .pure sp20), (f_code_Join, eJoin), (f_code_All, eAll), (f_r04_Same, .rd rdSame), (f_code_Get, .rd rdGet), (f_code_Len, .pure sp15)]
theorem ctBk_ok : CTok Try.prog ctBk := ⟨ce13, ce20, con_ok cal_code_Join _, con_ok cal_code_All _, re_same, re_get, ce15, trivial⟩
theorem CodeBack_c (L : List (Int × Int)) (cl : Nat) (hg : ∀ e ∈ L, prGood e) (hcl : L.length ≤ cl) :
    Con Try.prog f_l04_CodeBack [.s (.sl 0 0 L.length cl)] [.view (insV L)] (.ret (.t (.s (.bool true))) [.view (insV L)]) := by
  intro K hK
  refine enter fn_l04_CodeBack rfl nt_l04_CodeBack rfl rfl (fun φ w0 β0 F => ?_)
  have e1 : (if (60 : Int) < (L.length : Int) then (60 : Int) else (L.length : Int)) = ((min 60 L.length : Nat) : Int) := by split <;> omega
  have hl1 : (L.take 60).length = min 60 L.length := List.length_take ..
  have hs1 : seg (insV L) (0 + 0 * 2) ((min 60 L.length - 0) * 2) = insV (L.take 60) := by
    rw [seg_insV, Nat.sub_zero, List.take_min_len]
  refine c_run tt_ok ctBk_ok k_l04_CodeBack [] 90 (by kernel_rfl) ?_
  refine ⟨trivial, fun h => absurd h (by decide), fun _ => ?_⟩
  refine ⟨0, min 60 L.length, ⟨_, _, rfl, rfl, rfl, e1⟩, ⟨by omega, by omega⟩, ?_⟩
  show WpC _ _ _ _ _
  refine WpC.into (nilSlot 3 26 2 rfl) ?_
  refine c_loop (α := Nat × Nat) (fun x => x.1 ≤ min 60 L.length ∧ x.1 ≤ x.2) (fun x => min 60 L.length - x.1)
    (fun x => [(0, .t (.s (.sl 1 0 (min 60 L.length - 0) (cl - 0))), none), (3, .t (.s (.sl 2 0 x.1 x.2)), none), (22, .t (.s (.int .i64 ((min 60 L.length - 0 : Nat) : Int))), none), (23, .t (.s (.int .i64 (x.1 : Int))), none)])
    (fun x => [.view (insV L), .view (seg (insV L) (0 + 0 * 2) ((min 60 L.length - 0) * 2)), .own 26 2 x.2 (insV ((ownO L).take x.1))]) (0, 0) ⟨Nat.zero_le _, Nat.le_refl _⟩ ?_ ?_
  · exact into [0, 1, 2] ⟨⟨_, rfl, rfl⟩, ⟨_, rfl, rfl⟩, ⟨_, rfl, rfl⟩, ⟨_, rfl, rfl⟩, trivial⟩ ⟨_, rfl, rfl⟩ rfl rfl rfl rfl
  · rintro ⟨i, c⟩ ⟨hi, hc⟩
    simp only at hi hc
    dsimp only
    refine c_run' tt_ok ctBk_ok k_l04_CodeBack [36] 90 (by kernel_rfl) (by kernel_rfl) ?_
    refine ⟨fun h => ?_, fun h => ?_⟩
    · have hlt : i < min 60 L.length := by have := of_decide_eq_true h; omega
      obtain ⟨p, hp⟩ : ∃ p, (L.take 60)[i]? = some p := ⟨_, List.getElem?_eq_getElem (by rw [hl1]; exact hlt)⟩
      have hrow := row_at hp
      have hO : (ownO L)[i]? = some (fixS p.1, p.2) := by unfold ownO; rw [List.getElem?_map, hp]; rfl
      obtain ⟨f, v⟩ := p
      dsimp only at hrow hO
      refine ⟨i, ⟨rfl, by omega, by rw [hs1, insV_len, hl1]; simp only [Nat.zero_add, Nat.reduceAdd]; omega⟩, [.int .u8 f, .int .i32 v], rfl, ⟨Nat.le_refl 2, by rw [hs1, show 0 + i * (1 + 1) = i * 2 by omega]; exact hrow⟩, ?_⟩
      have hlen : (insV ((ownO L).take i)).length = i * 2 := by rw [insV_len, List.length_take, ownO_len]; omega
      refine ⟨trivial, ⟨rfl, hlen, Nat.le_refl _, fun u hu => ?_, by simp only [maxLen]; omega, by omega⟩, fun c' hc1 hc2 => ?_⟩
      · rcases List.mem_cons.1 (List.mem_of_mem_drop (List.mem_of_mem_take hu)) with rfl | hu
        · rfl
        · rw [List.mem_singleton.1 hu]; rfl
      refine e_again (i + 1, c') ⟨by simp only; omega, by simpa using hc1⟩ (by simp only; omega) (into [0, 1, 4] ⟨⟨_, rfl, rfl⟩, ⟨_, rfl, rfl⟩, ⟨_, rfl, rfl⟩, ⟨_, rfl, fvi (wrapSucc (by omega))⟩, trivial⟩ ⟨_, rfl, ?_⟩ rfl rfl rfl rfl)
      dsimp only
      rw [List.take_add_one, hO, insV_append]
      rfl
    · have hz : i = min 60 L.length := by have := of_decide_eq_false h; omega
      subst hz
      have hG : GoodO (ownO L) := ownO_good hg
      have hn := ownO_len L
      have hn60 : (ownO L).length ≤ 60 := by omega
      have hjE := joinE_good hG hn60
      have hAS := allS_join hG hn60
      have htk : (ownO L).take (min 60 L.length) = ownO L := by rw [← hn, List.take_length]
      rw [← hn] at hc
      refine l_freeze 2 (xs := insV (ownO L)) rfl (by show some _ = _; rw [htk]) ?_
      refine l_run (ct := ctBk) tt_ok ctBk_ok k_l04_CodeBack [46] 90 rfl (by kernel_rfl) ?_
      refine ⟨ownO L, ⟨hn.symm, rfl, ⟨fun p hp => (hG p hp).2.2.2.2.2, hc, by omega⟩⟩, ?_⟩
      refine ⟨fun _ c1 hc1 => ?_, fun h => absurd h (by rw [hjE]; decide)⟩
      refine l_freeze 3 (xs := bytesI (joinB (ownO L))) rfl rfl ?_
      refine l_run (ct := ctBk) tt_ok ctBk_ok k_l04_CodeBack [46] 90 rfl (by kernel_rfl) ?_
      refine ⟨joinB (ownO L), ⟨rfl, rfl, hc1⟩, ?_⟩
      rw [hAS]
      refine ⟨fun _ c2 hc2 => ?_, fun h => absurd h (by simp)⟩
      refine l_run (ct := ctBk) tt_ok ctBk_ok k_l04_CodeBack [100050, 100056] 90 rfl (by kernel_rfl) ?_
      refine ⟨.t (.s (.bool false)), fun β => told_b (by decide), rfl, ?_⟩
      have hsg : seg (insV (ownO L)) 0 ((ownO L).length * 2) = insV (ownO L) := by rw [← insV_len]; simp [seg]
      refine ⟨fun _ => ?_, fun h => absurd h (by decide)⟩
      refine ⟨(ownO L, ownO L), ⟨hsg, rfl, by rw [← hn]; exact hsg, hn.symm, by simp only; omega⟩, ?_⟩
      refine ⟨.t (.s (.bool false)), fun β => told_b (by simp), rfl, ?_⟩
      refine ⟨fun h => absurd h (by decide), fun _ => ?_⟩
      show WpC _ _ _ _ _
      refine c_loop (α := Nat) (fun i => i ≤ (ownO L).length) (fun i => (ownO L).length - i)
        (fun i => [(3, .t (.s (.sl 1 0 (ownO L).length c)), none), (5, .t (.s (.sl 2 0 (joinB (ownO L)).length c1)), none), (9, .t (.s (.int .i64 ((joinB ((ownO L).take i)).length : Int))), none), (58, .t (.s (.int .i64 ((ownO L).length : Int))), none), (59, .t (.s (.int .i64 (i : Int))), none)])
        (fun _ => [.view (insV L), .view (insV (ownO L)), .view (bytesI (joinB (ownO L)))]) 0 (Nat.zero_le _) ?_ ?_
      · exact into [0, 2, 3] ⟨⟨_, rfl, by rw [hn]; rfl⟩, ⟨_, rfl, rfl⟩, ⟨_, rfl, rfl⟩, ⟨_, rfl, by rw [hn]; rfl⟩, ⟨_, rfl, rfl⟩, trivial⟩ ⟨_, rfl, rfl⟩ rfl rfl rfl rfl
      · intro i hi
        dsimp only
        refine c_run' tt_ok ctBk_ok k_l04_CodeBack [] 90 (by kernel_rfl) (by kernel_rfl) ?_
        refine ⟨fun h => ?_, fun h => ?_⟩
        · have hlt : i < (ownO L).length := by have := of_decide_eq_true h; omega
          obtain ⟨p, hp⟩ : ∃ p, (ownO L)[i]? = some p := ⟨_, List.getElem?_eq_getElem hlt⟩
          have hrow := row_at hp
          have hat := joinB_at hp
          obtain ⟨k1, k2, k3, k4, k5, k6⟩ := hG p (List.mem_of_getElem? hp)
          obtain ⟨f, v⟩ := p
          dsimp only at hrow hat k1 k2 k3 k4 k5 k6
          have hbl := joinB_len (ownO L)
          have hll : ((joinB (ownO L)).drop (joinB ((ownO L).take i)).length).length = (joinB (ownO L)).length - (joinB ((ownO L).take i)).length := List.length_drop
          have hle : (joinB ((ownO L).take i)).length ≤ (joinB (ownO L)).length := by
            conv => rhs; rw [← List.take_append_drop i (ownO L)]
            unfold joinB
            rw [List.flatMap_append, List.length_append]; omega
          have hsn := joinB_snoc hp
          have hgs := getS_put k2 k3 k4 k5 k6 (joinB ((ownO L).drop (i + 1)))
          rw [← hat] at hgs
          refine ⟨(joinB ((ownO L).take i)).length, (joinB (ownO L)).length, ⟨_, _, rfl, rfl, rfl, rfl⟩, ⟨hle, hc1⟩, ?_⟩
          refine ⟨(joinB (ownO L)).drop (joinB ((ownO L).take i)).length, ⟨?_, hll⟩, ?_⟩
          · rw [seg_bytesI, seg_bytesI, Nat.mul_one, Nat.mul_one, Nat.zero_add, List.drop_zero, List.take_take, Nat.min_self, List.take_of_length_le (by rw [hll]; exact Nat.le_refl _)]
          rw [hgs]
          dsimp only
          refine ⟨i, fun _ => ⟨rfl, hlt, by rw [insV_len]; simp only [Nat.zero_add, Nat.reduceAdd]; omega⟩, ?_⟩
          have hra : RowAt (insV (ownO L)) (0 + i * (1 + 1)) 2 [.int .u8 f, .int .i32 v] := ⟨Nat.le_refl 2, by rw [show 0 + i * (1 + 1) = i * 2 by omega]; exact hrow⟩
          refine ⟨[.int .u8 f, .int .i32 v], rfl, fun _ => hra, ?_⟩
          refine ⟨i, fun _ => ⟨rfl, hlt, by rw [insV_len]; simp only [Nat.zero_add, Nat.reduceAdd]; omega⟩, ?_⟩
          refine ⟨[.int .u8 f, .int .i32 v], rfl, fun _ => hra, ?_⟩
          have hlS : lenS f v = ((putF 7 f v).length : Int) := by unfold lenS; rw [if_pos k1]
          have hb : (bif bif (0 : Int) != 0 then true else !(f == f && (v == v && true)) then true else ((putF 7 f v).length : Int) != lenS f v) = false := by rw [hlS]; simp
          refine ⟨fun _ => putOk7 k6, fun h => absurd h (by rw [hb]; decide), fun _ => ?_⟩
          refine e_again (i + 1) (by omega) (by omega) (into [0, 1, 2] ⟨⟨_, rfl, rfl⟩, ⟨_, rfl, rfl⟩, ⟨_, rfl, fvi ?_⟩, ⟨_, rfl, rfl⟩, ⟨_, rfl, fvi (wrapSucc (by omega))⟩, trivial⟩ ⟨_, rfl, rfl⟩ rfl rfl rfl rfl)
          have hl8 : (putF 7 f v).length ≤ 8 := put_fits 7 8 _ v k6 (fits_i32 (Nat.le_refl _) k6)
          rw [hsn, List.length_append, wrap64 (by omega) (by omega)]
          simp
        · have hz : i = (ownO L).length := by have := of_decide_eq_false h; omega
          subst hz
          rw [List.take_length]
          exact fin_k tt_ok (rs := rs_l04_CodeBack) rfl rfl hK [0] (by rw [beq_self_eq_true]; rfl) rfl rfl rfl rfl rfl
theorem CodeBack_d (L : List (Int × Int)) (cl : Nat) (hg : ∀ e ∈ L, prGood e) (hcl : L.length ≤ cl) :
    Con Try.prog f_l04_CodeBack [.s (.sl 0 0 L.length cl)] [.view (L.map prVS).flatten] (.ret (.t (.s (.bool true))) [.view (L.map prVS).flatten]) := by
  rw [pr_flat]
  exact CodeBack_c L cl hg hcl
end Go.Proofs
