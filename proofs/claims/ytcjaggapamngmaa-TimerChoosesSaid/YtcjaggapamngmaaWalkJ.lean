/- TimerSorted: the space, the times; the law. -/
import Derived.Test.YtcjaggapamngmaaWalkI

namespace Go.Proofs
open Go Go.Sx
set_option maxRecDepth 10000
theorem space_c (i : Int) (h : 0 ≤ i ∧ i < 50) : Con Try.prog f_l32_space [.s (.int .i64 i)] [] (.ret (.t (.s (.int .i32 (-2147483488 + 32 * i)))) []) := by
  intro K hK
  refine enter fn_l32_space rfl nt_l32_space rfl rfl (fun φ w0 β0 F => ?_)
  refine c_run tt_ok (ct := []) trivial k_l32_space [] 60 (by kernel_rfl) ?_
  have e : IntKind.i32.wrap (-2147483488 + IntKind.i32.wrap (32 * IntKind.i32.wrap i)) = -2147483488 + 32 * i := by
    rw [IntKind.wrap_i32, IntKind.wrap_i32, IntKind.wrap_i32]; omega
  rw [← e] at hK
  exact fin_k tt_ok (rs := rs_l32_space) rfl rfl hK [] rfl rfl rfl rfl rfl rfl
def spSpace : List TV → Option (Prop × FV)
  | [.s (.int .i64 i)] => some (0 ≤ i ∧ i < 50, .t (.s (.int .i32 (-2147483488 + 32 * i))))
  | _ => none
theorem ceSpace : CEok Try.prog f_l32_space spSpace := ⟨cal_l32_space, fun args p v h hp => by
  unfold spSpace at h; split at h
  · cases h; exact (space_c _ hp).pure
  · cases h⟩
/-- Times are compared by their offsets. -/
theorem aft_off (base : Int) {x y : Int} (hx : 0 ≤ x ∧ x < 1048576) (hy : 0 ≤ y ∧ y < 1048576) : aftB (IntKind.i32.wrap (base + x)) (IntKind.i32.wrap (base + y)) = decide (y < x) := by
  unfold aftB
  congr 1
  rw [IntKind.wrap_i32, IntKind.wrap_i32, IntKind.wrap_i32]
  apply propext
  constructor <;> intro h <;> omega
theorem and20 (v : Int) : 0 ≤ bits .and .i32 v 1048575 ∧ bits .and .i32 v 1048575 < 1048576 := by
  have e : bits .and .i32 v 1048575 = IntKind.i32.wrap ((BitVec.ofInt 32 v &&& BitVec.ofInt 32 1048575).toNat : Int) := rfl
  have hle : (BitVec.ofInt 32 v &&& BitVec.ofInt 32 1048575).toNat ≤ 1048575 := by
    rw [BitVec.toNat_and]
    exact Nat.le_trans Nat.and_le_right (by decide)
  rw [e, IntKind.wrap_i32]; omega
noncomputable abbrev ctSo : CT := [(f_l32_head, eHead), (f_mem_New, eNew), (f_r29_Reset, eReset), (f_l32_space, .pure spSpace), (f_timer_Insert, eInsert), (f_timer_Queue, eTQueue), (f_timer_Remove, eTRem), (f_l32_place, eLplace), (f_l32_put, eLput), (f_r29_Same, .rd rdSame)]
theorem ctSo_ok : CTok Try.prog ctSo := ⟨con_ok cal_l32_head _, con_ok cal_mem_New _, con_ok cal_r29_Reset _, ceSpace, con_ok cal_timer_Insert _, con_ok cal_timer_Queue _, con_ok cal_timer_Remove _, con_ok cal_l32_place _, con_ok cal_l32_put _, re_same, trivial⟩
theorem tmod_nat (a b : Nat) : ((a : Int)).tmod (b : Int) = ((a % b : Nat) : Int) := by rw [Int.tmod_eq_emod_of_nonneg (by omega)]; rfl
theorem tw_all {p : Nat → Bool} : ∀ {Q : List Nat} {q : Nat}, q ∈ Q.takeWhile p → p q = true
  | [], q, h => by simp at h
  | a :: t, q, h => by
    cases ha : p a with
    | false => rw [List.takeWhile_cons_of_neg (by rw [ha]; decide)] at h; simp at h
    | true =>
      rw [List.takeWhile_cons_of_pos ha] at h
      rcases List.mem_cons.1 h with rfl | h
      · exact ha
      · exact tw_all h
def offX (D : List Int) (i : Nat) : Int := bits .and .i32 (D.getD i 0) 1048575
set_option maxHeartbeats 4000000 in
theorem TimerSorted_c (base which pri : Int) (D : List Int) (cap : Nat) (hwh : 0 ≤ which ∧ which ≤ 255) : Con Try.prog f_l32_TimerSorted [.s (.int .i32 base), .s (.sl 0 0 D.length cap), .s (.int .u8 which), .s (.int .i64 pri)] [.view (qV D)] (.ret (.t (.s (.bool true))) [.view (qV D)]) := by
  intro K hK
  refine enter fn_l32_TimerSorted rfl nt_l32_TimerSorted rfl rfl (fun φ w0 β0 F => ?_)
  refine c_run tt_ok ctSo_ok k_l32_TimerSorted [] 90 (by kernel_rfl) ?_
  refine ⟨fun h0 => ?_, fun h0 => ?_⟩
  · exact fin_k tt_ok (rs := rs_l32_TimerSorted) rfl rfl hK [0] rfl rfl rfl rfl rfl rfl
  have hD : D.length ≤ 40 := by
    by_cases hh : (D.length : Int) > 40
    · rw [show decide ((D.length : Int) > 40) = true by simpa using hh] at h0; cases h0
    · omega
  have hpri : pri = 0 ∨ pri = 1 := by
    rw [show decide ((D.length : Int) > 40) = false by simp; omega] at h0
    by_cases h1 : pri = 0
    · exact .inl h1
    · by_cases h2 : pri = 1
      · exact .inr h2
      · simp [h1, h2] at h0
  obtain ⟨o, ho⟩ : ∃ o, (pri == 1) = o := ⟨_, rfl⟩
  refine ⟨fun _ => ?_, fun h => absurd h (by decide)⟩
  show WpC _ _ _ _ _
  refine WpC.into (nilSlot 12 21 1 rfl) ?_
  refine WpC.into (nilSlot 13 21 1 rfl) ?_
  refine c_freeze 4 rfl rfl ?_
  refine c_freeze 5 rfl rfl ?_
  refine c_loop (α := Nat × Core × Ram × List Nat × Nat × Nat) (fun x => x.1 ≤ D.length ∧ x.2.2.1.l.length = 2048 ∧ x.2.1.ok ∧ TQ x.2.2.1 (x.2.1.tm o) (fun i => IntKind.i32.wrap (base + offX D i)) x.2.2.2.1 ∧ (∀ q ∈ x.2.2.2.1, q < x.1) ∧ x.2.2.2.1.length = x.1 ∧ x.2.2.2.1.length ≤ x.2.2.2.2.1 ∧ x.2.2.2.1.length ≤ x.2.2.2.2.2) (fun x => D.length - x.1)
    (fun x => [(0, .t (.s (.int .i32 base)), none), (1, .t (.s (.sl 0 0 D.length cap)), none), (2, .t (.s (.int .u8 which)), none), (3, .t (.s (.int .i64 pri)), none), (8, .t (.s (.bool false)), none), (9, .t (.s (.loc 1 0)), none), (11, .t (.s (.loc 3 0)), none),
      (12, .t (.s (.sl 4 0 (x.2.2.2.1.map (offX D)).length x.2.2.2.2.1)), none), (13, .t (.s (.sl 5 0 (x.2.2.2.1.map spc).length x.2.2.2.2.2)), none), (14, .t (.s (.int .i64 (x.1 : Int))), none)])
    (fun x => [.view (qV D), .blk 33 [.sl 2 0 x.2.2.1.l.length x.2.2.1.l.length], mOwn x.2.2.1.l, .blk 26 x.2.1.sv, .view (qV (x.2.2.2.1.map (offX D))), .view (qV (x.2.2.2.1.map spc))]) (0, K0, Ram.zz, [], 0, 0) ?_ ?_ ?_
  · refine ⟨Nat.zero_le _, by simp [Ram.zz], by constructor <;> exact ⟨by decide, by decide⟩, ⟨by cases o <;> rfl, trivial, by simp, by simp, by simp⟩, by simp, rfl, Nat.le_refl _, Nat.le_refl _⟩
  · exact into [0, 1, 2, 3, 4, 5] ⟨⟨_, rfl, rfl⟩, ⟨_, rfl, rfl⟩, ⟨_, rfl, rfl⟩, ⟨_, rfl, rfl⟩, ⟨_, rfl, rfl⟩, ⟨_, rfl, rfl⟩, ⟨_, rfl, rfl⟩, ⟨_, rfl, rfl⟩, ⟨_, rfl, rfl⟩, ⟨_, rfl, rfl⟩, trivial⟩ ⟨_, rfl, rfl⟩ rfl rfl rfl rfl
  · rintro ⟨i, k, m, Q, c1, c2⟩ ⟨hi, hl, hok, hQ, hlt, hlen, hc1, hc2⟩
    simp only at hi hl hok hQ hlt hlen hc1 hc2
    dsimp only
    refine c_run' tt_ok ctSo_ok k_l32_TimerSorted [100090, 100096] 90 (by kernel_rfl) (by kernel_rfl) ?_
    refine ⟨fun h1 => ?_, fun h1 => ?_⟩
    · have hilt : i < D.length := by have := of_decide_eq_true h1; omega
      refine ⟨i, ⟨rfl, hilt, by rw [qV_len, Nat.zero_add, Nat.zero_add, Nat.mul_one]; omega⟩, .int .i32 (D.getD i 0), rfl, ?_, ?_⟩
      · rw [show 0 + i * (0 + 1) = i by omega]
        exact qV_at (by rw [List.getD_eq_getElem?_getD, List.getElem?_eq_getElem hilt]; rfl)
      obtain ⟨A, hA⟩ : ∃ A, Q.takeWhile (fun q => decide (offX D q ≤ offX D i)) = A := ⟨_, rfl⟩
      obtain ⟨B, hB⟩ : ∃ B, Q.dropWhile (fun q => decide (offX D q ≤ offX D i)) = B := ⟨_, rfl⟩
      have hAB : A ++ B = Q := by rw [← hA, ← hB]; exact List.takeWhile_append_dropWhile
      have hr : ∀ q, 0 ≤ offX D q ∧ offX D q < 1048576 := fun q => and20 _
      obtain ⟨k', m', hIns, hl', hQ', hk', _⟩ := ins_law (A := A) (B := B) (T := fun q => IntKind.i32.wrap (base + offX D q)) (j := i) (at' := IntKind.i32.wrap (base + offX D i)) (p := pri) (o := o) (k := k) hl (by rw [hAB]; exact hQ) (by omega) (by rw [hAB]; intro hm; exact absurd (hlt i hm) (Nat.lt_irrefl _)) (I32_wrap _)
        (fun q hq => by rw [aft_off base (hr q) (hr i)]; have := tw_all (hA ▸ hq); simpa using this)
        (fun b t hb => by
          rw [aft_off base (hr b) (hr i)]
          have h2 := List.head?_dropWhile_not (fun q => decide (offX D q ≤ offX D i)) Q
          rw [hB, hb] at h2
          simpa using h2)
        (by rw [hAB]; omega) ho
      have hpb : priB pri = true := by rcases hpri with rfl | rfl <;> rfl
      have hT : tinR k m (spc i) (IntKind.i32.wrap (base + offX D i)) pri = (k', 0, m') := by unfold tinR; rw [hpb, hIns]; rfl
      have hok' := insR_ok hok (spc_I32 (by omega)) hIns
      have hplc : plcN (Q.map (offX D)) (offX D i) = A.length := by unfold plcN; rw [List.takeWhile_map, List.length_map, ← hA]; rfl
      have hAl : A.length ≤ Q.length := by rw [← hAB]; simp
      have htk : ∀ f : Nat → Int, (Q.map f).take A.length ++ f i :: (Q.map f).drop A.length = (A ++ i :: B).map f := fun f => by
        rw [← hAB]; simp
      show WpC _ _ _ _ _
      refine c_waysH tt_ok ctSo_ok k_l32_TimerSorted [3] rfl rfl rfl ?_
      repeat' (first | exact trivial | exact ⟨rfl, trivial⟩ | (refine And.intro (show 0 ≤ (i : Int) ∧ (i : Int) < 50 by omega) ?_) | (refine Exists.intro (m, k', 0, m') ?_; refine And.intro ⟨rfl, rfl, rfl, rfl, ⟨hok, spc_I32 (i := i) (by omega), by omega, by omega⟩, hT⟩ ?_) | (refine And.intro ?_ ?_) | (refine fun _ => ?_))
      all_goals
        refine e_run tt_ok ctSo_ok k_l32_TimerSorted [] 90 (by kernel_rfl) ?_
        refine ⟨fun h => absurd (show ((0 : Int) != 0) = true from h) (by decide), fun _ => ?_⟩
        refine ⟨(Q.map (offX D), A.length), ⟨rfl, rfl, by dsimp only; rw [List.length_map]; omega, hplc⟩, ?_⟩
        refine ⟨(Q.map (offX D), A.length), ⟨rfl, rfl, rfl, by dsimp only; rw [List.length_map]; exact hAl, by dsimp only; rw [List.length_map]; omega, by dsimp only; rw [List.length_map]; exact hc1⟩, fun d1 hd1 => ?_⟩
        refine ⟨⟨by omega, by omega⟩, ⟨(Q.map spc, A.length), ⟨rfl, rfl, rfl, by dsimp only; rw [List.length_map]; exact hAl, by dsimp only; rw [List.length_map]; omega, by dsimp only; rw [List.length_map]; exact hc2⟩, fun d2 hd2 => ?_⟩⟩
        refine e_freeze 7 rfl rfl ?_
        refine e_freeze 8 rfl rfl ?_
        have hd1' : (Q.map (offX D)).length + 1 ≤ d1 := hd1
        have hd2' : (Q.map spc).length + 1 ≤ d2 := hd2
        rw [List.length_map] at hd1' hd2'
        have hlAB : (A ++ i :: B).length = Q.length + 1 := by rw [← hAB]; simp; omega
        have hfun : upd (fun q => IntKind.i32.wrap (base + offX D q)) i (IntKind.i32.wrap (base + offX D i)) = fun q => IntKind.i32.wrap (base + offX D q) := by
          funext q; unfold upd; by_cases e : q = i <;> simp [e]
        refine e_again (i + 1, k', m', A ++ i :: B, d1, d2) ⟨hilt, hl', hok', hfun ▸ hQ', ?_, by dsimp only; omega, by dsimp only; omega, by dsimp only; omega⟩ (by dsimp only; omega) (into [0, 1, 2, 3, 7, 8] ⟨⟨_, rfl, rfl⟩, ⟨_, rfl, rfl⟩, ⟨_, rfl, rfl⟩, ⟨_, rfl, rfl⟩, ⟨_, rfl, rfl⟩, ⟨_, rfl, rfl⟩, ⟨_, rfl, rfl⟩, ⟨_, rfl, ?_⟩, ⟨_, rfl, ?_⟩, ⟨_, rfl, ?_⟩, trivial⟩ ⟨_, rfl, ?_⟩ rfl rfl rfl rfl)
        · intro q hq
          dsimp only at hq ⊢
          rcases List.mem_append.1 hq with hq | hq
          · have := hlt q (by rw [← hAB]; exact List.mem_append_left _ hq); omega
          · rcases List.mem_cons.1 hq with rfl | hq
            · omega
            · have := hlt q (by rw [← hAB]; exact List.mem_append_right _ hq); omega
        · show FV.t (.s (.sl 7 0 ((Q.map (offX D)).length + 1) d1)) = .t (.s (.sl 7 0 ((A ++ i :: B).map (offX D)).length d1))
          rw [List.length_map, List.length_map, hlAB]
        · show FV.t (.s (.sl 8 0 ((Q.map spc).length + 1) d2)) = .t (.s (.sl 8 0 ((A ++ i :: B).map spc).length d2))
          rw [List.length_map, List.length_map, hlAB]
        · show FV.t (.s (.int .i64 (IntKind.i64.wrap ((i : Int) + 1)))) = .t (.s (.int .i64 ((i + 1 : Nat) : Int)))
          rw [wrap64 (by omega) (by omega)]; rfl
        · have e1 := htk (offX D)
          have e2 := htk spc
          dsimp only
          rw [← e1, ← e2]; rfl
    · have hpb : priB pri = true := by rcases hpri with rfl | rfl <;> rfl
      have hq := tqe_law (p := pri) hl hQ (by omega) hpb ho
      refine ⟨(m, Q.map spc, 0), ⟨rfl, rfl, rfl, rfl, ⟨hok, by omega, by omega⟩, hq⟩, fun cq hcq => ?_⟩
      refine ⟨.t (.s (.bool false)), fun β => told_bl rfl, rfl, ?_⟩
      have hseg : ∀ L : List Int, seg (qV L) 0 (L.length * 1) = qV L := fun L => by rw [seg_qV, List.drop_zero, Nat.mul_one, List.take_length]
      refine ⟨fun _ => ⟨(Q.map spc, Q.map spc), ⟨hseg _, rfl, hseg _, rfl, by dsimp only; rw [List.length_map]; omega⟩, ?_⟩, fun h => absurd h (by decide)⟩
      refine ⟨.t (.s (.bool false)), fun β => told_bl (by simp), rfl, ?_⟩
      refine ⟨fun h => absurd h (by decide), fun _ => ?_⟩
      refine ⟨fun h2 => ?_, fun h2 => ?_⟩
      · exact fin_k tt_ok (rs := rs_l32_TimerSorted) rfl rfl hK [0] rfl rfl rfl rfl rfl rfl
      have hQ0 : Q.length ≠ 0 := by
        intro e
        rw [List.length_map, e] at h2
        exact absurd h2 (by decide)
      obtain ⟨wn, hwn⟩ : ∃ wn : Nat, which = (wn : Int) := ⟨which.toNat, by omega⟩
      obtain ⟨r, hr⟩ : ∃ r, wn % Q.length = r := ⟨_, rfl⟩
      have hrl : r < Q.length := by rw [← hr]; exact Nat.mod_lt _ (by omega)
      refine ⟨fun e => by rw [List.length_map] at e; omega, ?_⟩
      have hrem : (IntKind.i64.wrap which).tmod ((List.map spc Q).length : Int) = (r : Int) := by
        rw [hwn, wrap64 (by omega) (by omega), List.length_map, tmod_nat, hr]
      show WpC _ _ _ _ _
      rw [hrem]
      obtain ⟨A, hA⟩ : ∃ A, Q.take r = A := ⟨_, rfl⟩
      obtain ⟨j, hj⟩ : ∃ j, Q[r] = j := ⟨_, rfl⟩
      obtain ⟨B, hB⟩ : ∃ B, Q.drop (r + 1) = B := ⟨_, rfl⟩
      have hAl : A.length = r := by rw [← hA, List.length_take]; omega
      have hAB : A ++ j :: B = Q := by rw [← hA, ← hj, ← hB, ← List.drop_eq_getElem_cons hrl]; exact List.take_append_drop r Q
      obtain ⟨k', m', hRem, hl', hQ', hk', _⟩ := rem_law (A := A) (B := B) (T := fun q => IntKind.i32.wrap (base + offX D q)) (j := j) (p := pri) (o := o) (k := k) hl (by rw [hAB]; exact hQ) (by rw [hAB]; omega) ho
      have hj50 : j < 50 := hQ.lt j (by rw [← hAB]; simp)
      have hT : trmR k m (spc j) pri = (k', 0, m') := by unfold trmR; rw [hpb, hRem]; rfl
      have hok' : k'.ok := by
        rw [hk']; split
        · refine Core.setT_ok hok _ ?_
          cases B with
          | nil => exact ⟨by decide, by decide⟩
          | cons b t => exact spc_I32 (hQ.lt b (by rw [← hAB]; simp))
        · exact hok
      have hat : (qV (Q.map spc))[r]? = some (.int .i32 (spc j)) := qV_at (by rw [List.getElem?_map, List.getElem?_eq_getElem hrl, hj]; rfl)
      show WpC _ _ _ _ _
      refine c_merge [(3, .t (.s (.int .i64 pri)), none), (8, .t (.s (.bool false)), none), (9, .t (.s (.loc 1 0)), none), (13, .t (.s (.sl 3 0 (Q.map spc).length c2)), none), (21, .t (.s (.int .i64 (r : Int))), none), (22, .t (.s (.loc 4 0)), none), (23, .t (.s (.int .i64 0)), none)]
        [.view (qV D), .blk 33 [.sl 2 0 m'.l.length m'.l.length], mOwn m'.l, .view (qV (Q.map spc)), .blk 26 k'.sv] (fun key => ?ways) ?cont
      case ways =>
        refine c_waysH tt_ok ctSo_ok k_l32_TimerSorted [3, 5] rfl rfl rfl ?_
        repeat' (first | exact trivial | exact ⟨rfl, rfl, trivial⟩ | (refine Exists.intro r ?_; refine And.intro ⟨rfl, by rw [List.length_map]; exact hrl, by rw [qV_len, List.length_map, Nat.zero_add, Nat.zero_add, Nat.mul_one]; omega⟩ ?_) | (refine Exists.intro (SV.int .i32 (spc j)) ?_; refine And.intro rfl (And.intro (by rw [show 0 + r * (0 + 1) = r by omega]; exact hat) ?_)) | (refine Exists.intro (m, k', 0, m') ?_; refine And.intro ⟨rfl, rfl, rfl, rfl, ⟨hok, by omega, by omega⟩, hT⟩ ?_) | (refine And.intro ?_ ?_) | (refine fun _ => ?_))
        all_goals
          refine WpE.into ?_ key
          first
            | exact into [0, 1, 2, 5, 7] ⟨⟨_, rfl, rfl⟩, ⟨_, rfl, rfl⟩, ⟨_, rfl, rfl⟩, ⟨_, rfl, rfl⟩, ⟨_, rfl, rfl⟩, ⟨_, rfl, rfl⟩, ⟨_, rfl, rfl⟩, trivial⟩ ⟨_, rfl, rfl⟩ rfl rfl rfl rfl
            | exact into [0, 1, 2, 5, 8] ⟨⟨_, rfl, rfl⟩, ⟨_, rfl, rfl⟩, ⟨_, rfl, rfl⟩, ⟨_, rfl, rfl⟩, ⟨_, rfl, rfl⟩, ⟨_, rfl, rfl⟩, ⟨_, rfl, rfl⟩, trivial⟩ ⟨_, rfl, rfl⟩ rfl rfl rfl rfl
      have hlm : (Q.map spc).length = Q.length := List.length_map ..
      have hqm := qV_len (Q.map spc)
      refine e_run tt_ok ctSo_ok k_l32_TimerSorted [100125, 100148, 100151, 100156, 100160] 90 (by kernel_rfl) ?_
      refine ⟨0, r, ⟨_, _, rfl, rfl, rfl, rfl⟩, ⟨by omega, by omega⟩, ?_⟩
      refine ⟨⟨by simp [seg]; omega, one_seg (one_seg (qV_one _)), by simp only [maxLen]; omega, by omega⟩, fun c3 h3 h3' => ?_⟩
      refine ⟨.t (.s (.int .i64 ((r + 1 : Nat) : Int))), fun β => told_il (wrapSucc (i := r) (by omega)).symm, rfl, ?_⟩
      refine ⟨r + 1, (Q.map spc).length, ⟨_, _, rfl, rfl, rfl, rfl⟩, ⟨by omega, by omega⟩, ?_⟩
      refine ⟨⟨rfl, ?_, ?_, ?_, by simp only [maxLen]; omega, by omega⟩, fun c4 h4 h4' => ?_⟩
      · simp [seg]; omega
      · simp [seg]; omega
      · exact one_seg (one_seg (qV_one _))
      have hq2 := tqe_law (p := pri) hl' hQ' (by have := congrArg List.length hAB; simp at this; simp; omega) hpb ho
      refine ⟨(m', (A ++ B).map spc, 0), ⟨rfl, rfl, rfl, rfl, ⟨hok', by omega, by omega⟩, hq2⟩, fun cq2 hcq2 => ?_⟩
      have hjn : j ∉ A ++ B := by
        have hnd := hQ.nd
        rw [← hAB, List.nodup_append] at hnd
        intro hm
        rcases List.mem_append.1 hm with hm | hm
        · exact hnd.2.2 j hm j (by simp) rfl
        · exact (List.nodup_cons.1 hnd.2.1).1 hm
      have hN : trmR k' m' (spc j) pri = (.zero, 6, m') := by
        unfold trmR
        rw [hpb, rem_none hl' hQ' hjn (by have := congrArg List.length hAB; simp at this; simp; omega) ho]; rfl
      have hrest : seg (seg (qV (Q.map spc)) (0 + 0 * 1) ((r - 0) * 1)) 0 ((r - 0) * 1) ++ seg (seg (qV (Q.map spc)) (0 + (r + 1) * 1) (((Q.map spc).length - (r + 1)) * 1)) 0 (((Q.map spc).length - (r + 1)) * 1) = qV ((A ++ B).map spc) := by
        simp only [Nat.mul_one, Nat.add_zero, Nat.zero_add, Nat.sub_zero, seg_qV, List.drop_zero, List.take_take, Nat.min_self]
        rw [← hA, ← hB, List.map_append, List.map_take, List.map_drop, qV_app, List.take_of_length_le (l := List.drop (r + 1) (Q.map spc)) (by simp)]
      have hABl : A.length + (B.length + 1) = Q.length := by have := congrArg List.length hAB; simpa using this
      have hll : r - 0 + ((Q.map spc).length - (r + 1)) = ((A ++ B).map spc).length := by rw [List.length_map, List.length_map, List.length_append]; omega
      have hle : ((A ++ B).map spc).length ≤ 1000000000 := by rw [← hll]; omega
      show WpC _ _ _ _ _
      refine c_waysH tt_ok ctSo_ok k_l32_TimerSorted [3, 4] rfl rfl rfl ?_
      repeat' (first | exact trivial | exact ⟨rfl, rfl, trivial⟩ | (refine Exists.intro r ?_; refine And.intro ⟨rfl, by rw [List.length_map]; exact hrl, by rw [qV_len, List.length_map, Nat.zero_add, Nat.zero_add, Nat.mul_one]; omega⟩ ?_) | (refine Exists.intro (SV.int .i32 (spc j)) ?_; refine And.intro rfl (And.intro (by rw [show 0 + r * (0 + 1) = r by omega]; exact hat) ?_)) | (refine Exists.intro (m', Core.zero, 6, m') ?_; refine And.intro ⟨rfl, rfl, rfl, rfl, ⟨hok', by omega, by omega⟩, hN⟩ ?_) | (refine And.intro ?_ ?_) | (refine fun _ => ?_))
      all_goals
        refine e_run tt_ok ctSo_ok k_l32_TimerSorted [100148, 100151, 100156, 100160] 90 (by kernel_rfl) ?_
        refine ⟨.t (.s (.bool true)), fun β => told_tr rfl, rfl, ?_⟩
        refine ⟨.t (.s (.bool true)), fun β => told_tr rfl, rfl, ?_⟩
        refine ⟨fun _ => ⟨((A ++ B).map spc, (A ++ B).map spc), ⟨hseg _, rfl, ?_, hll, hle⟩, ?_⟩, fun h => absurd h (by decide)⟩
        · rw [hrest, show r - 0 + ((Q.map spc).length - (r + 1)) = ((A ++ B).map spc).length from hll]; exact hseg _
        refine ⟨.t (.s (.bool true)), fun β => told_tr (by simp), rfl, ?_⟩
        refine ⟨.t (.s (.bool true)), fun β => told_tr rfl, rfl, ?_⟩
        refine ⟨fun _ => ?_, fun h => absurd h (by decide)⟩
        exact fin_k tt_ok (rs := rs_l32_TimerSorted) rfl rfl hK [0] rfl rfl rfl rfl rfl rfl
end Go.Proofs

namespace Go.Proofs
open Go Go.Sx
set_option maxRecDepth 10000
theorem told_jl {a b : Int} {β : Nat → Bd} (h : a = b) : (FV.t (.s (.int .i32 a))).den β = (FV.t (.s (.int .i32 b))).den β := by rw [h]
/-- A process runs, with a time in A. -/
def runT (k : Core) (i : Nat) (a : Int) : Core := { k.nobody with wptr := spc i, pri := 0, busy := true, a := a }
theorem runT_ok {k : Core} {i : Nat} {a : Int} (h : k.ok) (hi : i < 50) (ha : I32 a) : (runT k i a).ok := by
  have hn := nobody_ok h
  exact { hn with a := ha, wptr := spc_I32 hi, pri := (show -9223372036854775808 ≤ (0 : Int) ∧ (0 : Int) ≤ 9223372036854775807 from ⟨by decide, by decide⟩) }
/-- How long the process i waits. -/
def dlX (D : List Int) (i : Nat) : Int := D.getD i 0 % 64 - 8
theorem dlX_in (D : List Int) (i : Nat) : -8 ≤ dlX D i ∧ dlX D i ≤ 55 := by unfold dlX; omega
abbrev tmX (clock : Int) (D : List Int) (i : Nat) : Int := IntKind.i32.wrap (IntKind.i32.wrap (clock + dlX D i) + 1)
/-- What holds ahead of the process i. -/
structure WkI (clock : Int) (D : List Int) (i : Nat) (k : Core) (m : Ram) (Q : List Nat) : Prop where
  len : m.l.length = 2048
  ok : k.ok
  ck : k.k0 = clock
  t1 : k.t1 = NP
  f0 : k.f0 = NP
  b0 : k.b0 = NP
  ha : k.halted = false
  q : TQ m k.t0 (tmX clock D) Q
  lt : ∀ q ∈ Q, q < i
  ps : ∀ q ∈ Q, 0 ≤ dlX D q
  st : ∀ q ∈ Q, m.word (spc q - 12) = -2147483646
  nn : Q.length ≤ i
theorem wK0_ok : K0.ok := by constructor <;> exact ⟨by decide, by decide⟩
theorem aft_now {clock d : Int} (hd : -8 ≤ d ∧ d ≤ 55) (_hc : I32 clock) : aftB clock (IntKind.i32.wrap (clock + d)) = decide (d < 0) := by
  unfold aftB I32 at *
  congr 1
  rw [IntKind.wrap_i32, IntKind.wrap_i32]
  apply propext
  constructor <;> intro h <;> omega
theorem aft_tt {clock d e : Int} (hd : -8 ≤ d ∧ d ≤ 55) (he : -8 ≤ e ∧ e ≤ 55) : aftB (IntKind.i32.wrap (IntKind.i32.wrap (clock + d) + 1)) (IntKind.i32.wrap (IntKind.i32.wrap (clock + e) + 1)) = decide (e < d) := by
  unfold aftB
  congr 1
  rw [IntKind.wrap_i32, IntKind.wrap_i32, IntKind.wrap_i32, IntKind.wrap_i32, IntKind.wrap_i32]
  apply propext
  constructor <;> intro h <;> omega
theorem aft_tn {clock d n : Int} (hd : -8 ≤ d ∧ d ≤ 55) (hn : 0 ≤ n ∧ n ≤ 64) : aftB (IntKind.i32.wrap (IntKind.i32.wrap (clock + d) + 1)) (IntKind.i32.wrap (clock + n)) = decide (n ≤ d) := by
  unfold aftB
  congr 1
  rw [IntKind.wrap_i32, IntKind.wrap_i32, IntKind.wrap_i32, IntKind.wrap_i32]
  apply propext
  constructor <;> intro h <;> omega
theorem dl_conv {x : Int} (h : 0 ≤ x ∧ x < 256) : IntKind.i32.wrap (IntKind.i32.wrap (x.tmod 64) - 8) = x % 64 - 8 := by
  rw [Int.tmod_eq_emod_of_nonneg h.1, IntKind.wrap_i32, IntKind.wrap_i32]; omega
theorem tin_past {k : Core} {m : Ram} {i : Nat} {a : Int} (hl : m.l.length = 2048) (hi : i < 50) (h : aftB k.k0 a = true) : texR (runT k i a) m 15 43 = (runT k i a, 0, m) := by
  have e : excR (runT k i a) m 43 = some (runT k i a, m) := by
    unfold excR
    rw [show ((43 : Int) == 34) = false from rfl, show ((43 : Int) == 84) = false from rfl, show ((43 : Int) == 43) = true from rfl, show (runT k i a).wptr = spc i from rfl, spc_valid hl hi]
    show (bif !aftB k.k0 a then _ else _) = _
    rw [h]; rfl
  unfold texR
  rw [e]; rfl
theorem tin_wait {k : Core} {m : Ram} {i : Nat} {a : Int} {T : Nat → Int} {A B : List Nat} (hl : m.l.length = 2048) (hi : i < 50) (h : aftB k.k0 a = false) (hQ : TQ m k.t0 T (A ++ B)) (hin : i ∉ A ++ B) (hok : k.ok) (_ha : I32 a)
    (hA : ∀ q ∈ A, aftB (T q) (IntKind.i32.wrap (a + 1)) = false) (hB : ∀ b t, B = b :: t → aftB (T b) (IntKind.i32.wrap (a + 1)) = true) (hn : (A ++ B).length < 1025) :
    ∃ k' m', texR (runT k i a) m 15 43 = (k', 0, m') ∧ m'.l.length = 2048 ∧ TQ m' k'.t0 (upd T i (IntKind.i32.wrap (a + 1))) (A ++ i :: B) ∧ k' = { k.nobody with t0 := k'.t0 } ∧ k'.ok ∧ m'.word (spc i - 12) = -2147483646 ∧
      (∀ q, q < 50 → q ≠ i → m'.word (spc q - 12) = m.word (spc q - 12)) := by
  obtain ⟨k', m', e, hl', hQ', hk', hs, hw, _⟩ := sle_law (k := runT k i a) (at' := IntKind.i32.wrap (a + 1)) hl hQ rfl rfl rfl hi hin (I32_wrap _) (show I32 0 from ⟨by decide, by decide⟩) hA hB hn
  have e2 : excR (runT k i a) m 43 = some (k'.nobody, m') := by
    unfold excR
    rw [show ((43 : Int) == 34) = false from rfl, show ((43 : Int) == 84) = false from rfl, show ((43 : Int) == 43) = true from rfl, show (runT k i a).wptr = spc i from rfl, spc_valid hl hi]
    show (bif !aftB k.k0 a then sleR (runT k i a) m true (IntKind.i32.wrap (a + 1)) else _) = _
    rw [h]; exact e
  have hkn : k'.nobody = { k.nobody with t0 := k'.nobody.t0 } := by rw [hk']; split <;> rfl
  refine ⟨k'.nobody, m', ?_, hl', hQ', hkn, ?_, hs, fun q hq hne => hw q hq hne 12 (by decide) (by decide) (by decide)⟩
  · unfold texR; rw [e2]; rfl
  · have ht : I32 k'.nobody.t0 := by rw [show k'.nobody.t0 = k'.t0 from rfl, hQ'.hd]; exact fst_I32 hQ'.lt
    rw [hkn]
    exact { nobody_ok hok with t0 := ht }
theorem tw_two {p q : Nat → Bool} (h : ∀ i, p i = true → q i = true) : ∀ L : List Nat, L.takeWhile p ++ (L.dropWhile p).takeWhile q = L.takeWhile q ∧ (L.dropWhile p).dropWhile q = L.dropWhile q
  | [] => by simp
  | a :: t => by
    cases hp : p a with
    | true =>
      have := tw_two h t
      rw [List.takeWhile_cons_of_pos hp, List.dropWhile_cons_of_pos hp, List.takeWhile_cons_of_pos (h a hp), List.dropWhile_cons_of_pos (h a hp), List.cons_append, this.1, this.2]
      exact ⟨rfl, rfl⟩
    | false =>
      rw [List.takeWhile_cons_of_neg (by rw [hp]; decide), List.dropWhile_cons_of_neg (by rw [hp]; decide)]
      exact ⟨rfl, rfl⟩
theorem wk_past {clock : Int} {D : List Int} {i : Nat} {k : Core} {m : Ram} {Q : List Nat} (h : WkI clock D i k m Q) (hc : I32 clock) (hi : i < 20) (hd : dlX D i < 0) :
    texR (runT k i (IntKind.i32.wrap (clock + dlX D i))) m 15 43 = (runT k i (IntKind.i32.wrap (clock + dlX D i)), 0, m) ∧ WkI clock D (i + 1) k.nobody m Q := by
  refine ⟨tin_past h.len (by omega) ?_, ⟨h.len, nobody_ok h.ok, h.ck, h.t1, h.f0, h.b0, h.ha, h.q, fun q hq => by have := h.lt q hq; omega, h.ps, h.st, by have := h.nn; omega⟩⟩
  rw [h.ck, aft_now (dlX_in D i) hc]
  simpa using hd
theorem wk_wait {clock : Int} {D : List Int} {i : Nat} {k : Core} {m : Ram} {Q A B : List Nat} (h : WkI clock D i k m Q) (hc : I32 clock) (hi : i < 20) (hd : 0 ≤ dlX D i) (hA : Q.takeWhile (fun q => decide (dlX D q ≤ dlX D i)) = A) (hB : Q.dropWhile (fun q => decide (dlX D q ≤ dlX D i)) = B) :
    ∃ k' m', texR (runT k i (IntKind.i32.wrap (clock + dlX D i))) m 15 43 = (k', 0, m') ∧ k'.busy = false ∧ m'.l.length = 2048 ∧ WkI clock D (i + 1) k'.nobody m' (A ++ i :: B) := by
  have hAB : A ++ B = Q := by rw [← hA, ← hB]; exact List.takeWhile_append_dropWhile
  have hni : i ∉ A ++ B := by rw [hAB]; intro hm; exact absurd (h.lt i hm) (Nat.lt_irrefl _)
  have hnn := h.nn
  obtain ⟨k', m', e, hl', hQ', hk', hok', hs, hw⟩ := tin_wait (k := k) (m := m) (i := i) (a := IntKind.i32.wrap (clock + dlX D i)) (T := tmX clock D) (A := A) (B := B) h.len (by omega)
    (by rw [h.ck, aft_now (dlX_in D i) hc]; simpa using hd) (by rw [hAB]; exact h.q) hni h.ok (I32_wrap _)
    (fun q hq => by rw [aft_tt (dlX_in D q) (dlX_in D i)]; have := tw_all (hA ▸ hq); simpa using this)
    (fun b t hb => by
      rw [aft_tt (dlX_in D b) (dlX_in D i)]
      have h2 := List.head?_dropWhile_not (fun q => decide (dlX D q ≤ dlX D i)) Q
      rw [hB, hb] at h2
      simpa using h2)
    (by rw [hAB]; omega)
  have hmem : ∀ q, q ∈ A ++ i :: B → q = i ∨ q ∈ Q := fun q hq => by
    rcases List.mem_append.1 hq with hq | hq
    · exact .inr (hAB ▸ List.mem_append_left _ hq)
    · rcases List.mem_cons.1 hq with rfl | hq
      · exact .inl rfl
      · exact .inr (hAB ▸ List.mem_append_right _ hq)
  refine ⟨k', m', e, by rw [hk']; rfl, hl', ⟨hl', nobody_ok hok', by rw [hk']; exact h.ck, by rw [hk']; exact h.t1, by rw [hk']; exact h.f0, by rw [hk']; exact h.b0, by rw [hk']; exact h.ha, ?_, ?_, ?_, ?_, ?_⟩⟩
  · refine hQ'.times fun q _ => ?_
    unfold upd
    by_cases e : q = i <;> simp [e]
  · intro q hq
    rcases hmem q hq with rfl | hq
    · omega
    · have := h.lt q hq; omega
  · intro q hq
    rcases hmem q hq with rfl | hq
    · exact hd
    · exact h.ps q hq
  · intro q hq
    rcases hmem q hq with rfl | hq
    · exact hs
    · have hlt := h.lt q hq
      rw [hw q (by omega) (by omega)]; exact h.st q hq
  · have : (A ++ i :: B).length = Q.length + 1 := by rw [← hAB]; simp; omega
    omega
/-- What holds after n ticks. -/
structure WkJ (clock : Int) (D : List Int) (L : List Nat) (n : Nat) (k : Core) (m : Ram) : Prop where
  len : m.l.length = 2048
  ok : k.ok
  ck : k.k0 = IntKind.i32.wrap (clock + (n : Int))
  t1 : k.t1 = NP
  ha : k.halted = false
  q : TQ m k.t0 (tmX clock D) (L.dropWhile fun q => decide (dlX D q < (n : Int)))
  r : QI k m false (L.takeWhile fun q => decide (dlX D q < (n : Int)))
  st : ∀ q ∈ L.dropWhile (fun q => decide (dlX D q < (n : Int))), m.word (spc q - 12) = -2147483646
theorem wk_start {clock : Int} {D : List Int} {i : Nat} {k : Core} {m : Ram} {Q : List Nat} (h : WkI clock D i k m Q) (hc : I32 clock) : WkJ clock D Q 0 k m := by
  have ht : Q.takeWhile (fun q => decide (dlX D q < ((0 : Nat) : Int))) = [] := by
    cases Q with
    | nil => rfl
    | cons a t => rw [List.takeWhile_cons_of_neg]; have := h.ps a (by simp); simp; omega
  have hdw : Q.dropWhile (fun q => decide (dlX D q < ((0 : Nat) : Int))) = Q := by
    have := List.takeWhile_append_dropWhile (p := fun q => decide (dlX D q < ((0 : Nat) : Int))) (l := Q)
    rw [ht] at this; simpa using this
  refine ⟨h.len, h.ok, ?_, h.t1, h.ha, by rw [hdw]; exact h.q, ?_, by rw [hdw]; exact h.st⟩
  · rw [h.ck, IntKind.wrap_i32]; unfold I32 at hc; simp; omega
  · rw [ht]
    exact ⟨h.f0, h.b0, trivial, List.nodup_nil, fun x hx => by simp at hx⟩
theorem wk_tick {clock : Int} {D : List Int} {L : List Nat} {n : Nat} {k : Core} {m : Ram} (h : WkJ clock D L n k m) (hL : L.length < 1025) (hnd : L.Nodup) (hn : n < 60) :
    ∃ k' m', ttkR k m = (k', 0, m') ∧ WkJ clock D L (n + 1) k' m' := by
  have hc : IntKind.i32.wrap (k.k0 + 1) = IntKind.i32.wrap (clock + ((n + 1 : Nat) : Int)) := by
    rw [h.ck, IntKind.wrap_i32, IntKind.wrap_i32, IntKind.wrap_i32]; omega
  have hp : (fun i => !aftB (tmX clock D i) (IntKind.i32.wrap (clock + ((n + 1 : Nat) : Int)))) = fun q => decide (dlX D q < ((n + 1 : Nat) : Int)) := by
    funext q
    rw [aft_tn (dlX_in D q) (by omega)]
    by_cases e : ((n + 1 : Nat) : Int) ≤ dlX D q
    · rw [decide_eq_true e, decide_eq_false (by omega)]; rfl
    · rw [decide_eq_false e, decide_eq_true (by omega)]; rfl
  have htd := List.takeWhile_append_dropWhile (p := fun q => decide (dlX D q < (n : Int))) (l := L)
  have hnd' := hnd
  rw [← htd, List.nodup_append] at hnd'
  obtain ⟨k', m', e, hl', hQ', hR', hs', _, h1, h2, h3, h4⟩ := tick_law (c := IntKind.i32.wrap (clock + ((n + 1 : Nat) : Int))) h.len h.q (Nat.lt_of_le_of_lt (List.dropWhile_sublist _).length_le hL) h.r (fun x hx hm => hnd'.2.2 x hm x hx rfl) h.st h.t1 h.ha hc h.ok
  obtain ⟨t1, t2⟩ := tw_two (p := fun q => decide (dlX D q < (n : Int))) (q := fun q => decide (dlX D q < ((n + 1 : Nat) : Int))) (fun i hi => by simp at hi ⊢; omega) L
  rw [hp] at hQ' hR' hs'
  rw [t2] at hQ' hs'
  rw [t1] at hR'
  exact ⟨k', m', e, ⟨hl', h4, h3, h1, h2, hQ', hR', hs'⟩⟩
theorem tw_take (p : Nat → Bool) : ∀ L : List Nat, L.take (L.takeWhile p).length = L.takeWhile p ∧ L.drop (L.takeWhile p).length = L.dropWhile p
  | [] => ⟨rfl, rfl⟩
  | a :: t => by
    cases hp : p a with
    | true =>
      have := tw_take p t
      rw [List.takeWhile_cons_of_pos hp, List.dropWhile_cons_of_pos hp, List.length_cons, List.take_succ_cons, List.drop_succ_cons, this.1, this.2]
      exact ⟨rfl, rfl⟩
    | false =>
      rw [List.takeWhile_cons_of_neg (by rw [hp]; decide), List.dropWhile_cons_of_neg (by rw [hp]; decide)]
      exact ⟨rfl, rfl⟩
noncomputable abbrev ctWk : CT := [(f_l32_head, eHead), (f_mem_New, eNew), (f_r29_Reset, eReset), (f_l32_space, .pure spSpace), (f_l32_running, in_l32_running [(f_r29_Nobody, in_r29_Nobody [])]), (f_r29_Nobody, in_r29_Nobody []), (f_l32_op, in_l32_op []), (f_timer_Exec, eTExec), (f_timer_Tick, eTTick), (f_timer_Queue, eTQueue), (f_sched_Queue, eQueue), (f_l32_place, eLplace), (f_l32_put, eLput), (f_r29_Same, .rd rdSame)]
theorem ctWk_ok : CTok Try.prog ctWk := ⟨con_ok cal_l32_head _, con_ok cal_mem_New _, con_ok cal_r29_Reset _, ceSpace, in_l32_running_ok ⟨in_r29_Nobody_ok (ct := []) trivial, trivial⟩, in_r29_Nobody_ok (ct := []) trivial, in_l32_op_ok (ct := []) trivial, con_ok cal_timer_Exec _, con_ok cal_timer_Tick _, con_ok cal_timer_Queue _, con_ok cal_sched_Queue _, con_ok cal_l32_place _, con_ok cal_l32_put _, re_same, trivial⟩
def wkC (clock : Int) : Core := { K0 with k0 := clock }
set_option maxHeartbeats 4000000 in
theorem TimerWakes_c (clock : Int) (D : List Int) (cap : Nat) (hck : I32 clock) (hD : ∀ x ∈ D, 0 ≤ x ∧ x < 256) : Con Try.prog f_l32_TimerWakes [.s (.int .i32 clock), .s (.sl 0 0 D.length cap)] [.view (bytesI D)] (.ret (.t (.s (.bool true))) [.view (bytesI D)]) := by
  intro K hK
  refine enter fn_l32_TimerWakes rfl nt_l32_TimerWakes rfl rfl (fun φ w0 β0 F => ?_)
  refine c_run tt_ok ctWk_ok k_l32_TimerWakes [] 90 (by kernel_rfl) ?_
  refine ⟨fun h0 => ?_, fun h0 => ?_⟩
  · exact fin_k tt_ok (rs := rs_l32_TimerWakes) rfl rfl hK [0] rfl rfl rfl rfl rfl rfl
  have hDl : D.length ≤ 20 := by
    have := of_decide_eq_false h0; omega
  refine ⟨fun _ => ?_, fun h => absurd h (by decide)⟩
  refine WpC.into (nilSlot 8 21 1 rfl) ?_
  refine WpC.into (nilSlot 9 21 1 rfl) ?_
  refine c_freeze 4 rfl rfl ?_
  refine c_freeze 5 rfl rfl ?_
  refine c_loop (α := Nat × Core × Ram × List Nat × Nat × Nat) (fun x => x.1 ≤ D.length ∧ WkI clock D x.1 x.2.1 x.2.2.1 x.2.2.2.1 ∧ x.2.2.2.1.length ≤ x.2.2.2.2.1 ∧ x.2.2.2.1.length ≤ x.2.2.2.2.2) (fun x => D.length - x.1)
    (fun x => [(0, .t (.s (.int .i32 clock)), none), (1, .t (.s (.sl 0 0 D.length cap)), none), (4, .t (.s (.bool false)), none), (5, .t (.s (.loc 1 0)), none), (7, .t (.s (.loc 3 0)), none),
      (8, .t (.s (.sl 4 0 (x.2.2.2.1.map (dlX D)).length x.2.2.2.2.1)), none), (9, .t (.s (.sl 5 0 (x.2.2.2.1.map spc).length x.2.2.2.2.2)), none), (10, .t (.s (.int .i64 (x.1 : Int))), none)])
    (fun x => [.view (bytesI D), .blk 33 [.sl 2 0 x.2.2.1.l.length x.2.2.1.l.length], mOwn x.2.2.1.l, .blk 26 x.2.1.sv, .view (qV (x.2.2.2.1.map (dlX D))), .view (qV (x.2.2.2.1.map spc))]) (0, wkC clock, Ram.zz, [], 0, 0) ?_ ?_ ?_
  · refine ⟨Nat.zero_le _, ⟨by simp [Ram.zz], { wK0_ok with k0 := hck }, rfl, rfl, rfl, rfl, rfl, ⟨rfl, trivial, by simp, by simp, by simp⟩, by simp, by simp, by simp, Nat.le_refl _⟩, Nat.le_refl _, Nat.le_refl _⟩
  · exact into [0, 1, 2, 3, 4, 5] ⟨⟨_, rfl, rfl⟩, ⟨_, rfl, rfl⟩, ⟨_, rfl, rfl⟩, ⟨_, rfl, rfl⟩, ⟨_, rfl, rfl⟩, ⟨_, rfl, rfl⟩, ⟨_, rfl, rfl⟩, ⟨_, rfl, rfl⟩, trivial⟩ ⟨_, rfl, rfl⟩ rfl rfl rfl rfl
  rintro ⟨i, k, m, Q, c1, c2⟩ ⟨hi, hI, hc1, hc2⟩
  simp only at hi hI hc1 hc2
  dsimp only
  refine c_run' tt_ok ctWk_ok k_l32_TimerWakes [100048] 90 (by kernel_rfl) (by kernel_rfl) ?_
  refine ⟨fun h1 => ?_, fun h1 => ?_⟩
  · have hlt : i < D.length := by have := of_decide_eq_true h1; omega
    refine ⟨i, ⟨rfl, hlt, by rw [bytesI_length]; simp only [Nat.zero_add, Nat.mul_one]; omega⟩, .int .u8 (D.getD i 0), rfl, by show (bytesI D)[0 + i * 1]? = _; rw [Nat.zero_add, Nat.mul_one]; exact bytesI_at hlt, ?_⟩
    have hx := hD (D.getD i 0) (by rw [List.getD_eq_getElem?_getD, List.getElem?_eq_getElem hlt]; exact List.getElem_mem hlt)
    refine ⟨.t (.s (.int .i32 (dlX D i))), fun β => told_jl (dl_conv hx).symm, rfl, ?_⟩
    have hi50 : 0 ≤ (i : Int) ∧ (i : Int) < 50 := by omega
    show WpC _ _ _ _ _
    refine c_merge [(0, .t (.s (.int .i32 clock)), none), (1, .t (.s (.sl 0 0 D.length cap)), none), (4, .t (.s (.bool false)), none), (5, .t (.s (.loc 1 0)), none), (7, .t (.s (.loc 3 0)), none),
      (8, .t (.s (.sl 4 0 (Q.map (dlX D)).length c1)), none), (9, .t (.s (.sl 5 0 (Q.map spc).length c2)), none), (10, .t (.s (.int .i64 (i : Int))), none), (11, .t (.s (.int .i32 (dlX D i))), none), (12, .t (.s (.loc 6 0)), none)]
      [.view (bytesI D), .blk 33 [.sl 2 0 m.l.length m.l.length], mOwn m.l, .blk 26 k.sv, .view (qV (Q.map (dlX D))), .view (qV (Q.map spc)), .blk 26 (runT k i 0).sv] (fun key => ?ways0) ?cont0
    case ways0 =>
      refine c_waysH tt_ok ctWk_ok k_l32_TimerWakes [3] rfl rfl rfl ?_
      repeat' (first | exact trivial | exact ⟨rfl, trivial⟩ | (refine And.intro hi50 ?_) | (refine And.intro ?_ ?_) | (refine fun _ => ?_))
      all_goals
        refine WpE.into ?_ key
        first
          | exact into [0, 1, 2, 3, 4, 5, 10] ⟨⟨_, rfl, rfl⟩, ⟨_, rfl, rfl⟩, ⟨_, rfl, rfl⟩, ⟨_, rfl, rfl⟩, ⟨_, rfl, rfl⟩, ⟨_, rfl, rfl⟩, ⟨_, rfl, rfl⟩, ⟨_, rfl, rfl⟩, ⟨_, rfl, rfl⟩, ⟨_, rfl, rfl⟩, trivial⟩ ⟨_, rfl, rfl⟩ rfl rfl rfl rfl
          | exact into [0, 1, 2, 3, 4, 5, 6] ⟨⟨_, rfl, rfl⟩, ⟨_, rfl, rfl⟩, ⟨_, rfl, rfl⟩, ⟨_, rfl, rfl⟩, ⟨_, rfl, rfl⟩, ⟨_, rfl, rfl⟩, ⟨_, rfl, rfl⟩, ⟨_, rfl, rfl⟩, ⟨_, rfl, rfl⟩, ⟨_, rfl, rfl⟩, trivial⟩ ⟨_, rfl, rfl⟩ rfl rfl rfl rfl
          | exact into [0, 1, 2, 3, 4, 5, 7] ⟨⟨_, rfl, rfl⟩, ⟨_, rfl, rfl⟩, ⟨_, rfl, rfl⟩, ⟨_, rfl, rfl⟩, ⟨_, rfl, rfl⟩, ⟨_, rfl, rfl⟩, ⟨_, rfl, rfl⟩, ⟨_, rfl, rfl⟩, ⟨_, rfl, rfl⟩, ⟨_, rfl, rfl⟩, trivial⟩ ⟨_, rfl, rfl⟩ rfl rfl rfl rfl
          | exact into [0, 1, 2, 3, 4, 5, 8] ⟨⟨_, rfl, rfl⟩, ⟨_, rfl, rfl⟩, ⟨_, rfl, rfl⟩, ⟨_, rfl, rfl⟩, ⟨_, rfl, rfl⟩, ⟨_, rfl, rfl⟩, ⟨_, rfl, rfl⟩, ⟨_, rfl, rfl⟩, ⟨_, rfl, rfl⟩, ⟨_, rfl, rfl⟩, trivial⟩ ⟨_, rfl, rfl⟩ rfl rfl rfl rfl
          | exact into [0, 1, 2, 3, 4, 5, 9] ⟨⟨_, rfl, rfl⟩, ⟨_, rfl, rfl⟩, ⟨_, rfl, rfl⟩, ⟨_, rfl, rfl⟩, ⟨_, rfl, rfl⟩, ⟨_, rfl, rfl⟩, ⟨_, rfl, rfl⟩, ⟨_, rfl, rfl⟩, ⟨_, rfl, rfl⟩, ⟨_, rfl, rfl⟩, trivial⟩ ⟨_, rfl, rfl⟩ rfl rfl rfl rfl
    refine e_run tt_ok ctWk_ok k_l32_TimerWakes [] 90 (by kernel_rfl) ?_
    have hiv : i < 50 := by omega
    have hrok : (runT k i (IntKind.i32.wrap (clock + dlX D i))).ok := runT_ok hI.ok hiv (I32_wrap _)
    show WpC _ _ _ _ _
    by_cases hd : dlX D i < 0
    · obtain ⟨hT, hI'⟩ := wk_past hI hck (by omega) hd
      refine c_merge [(0, .t (.s (.int .i32 clock)), none), (1, .t (.s (.sl 0 0 D.length cap)), none), (4, .t (.s (.bool false)), none), (5, .t (.s (.loc 1 0)), none), (7, .t (.s (.loc 3 0)), none),
          (8, .t (.s (.sl 4 0 (Q.map (dlX D)).length c1)), none), (9, .t (.s (.sl 5 0 (Q.map spc).length c2)), none), (10, .t (.s (.int .i64 (i : Int))), none), (11, .t (.s (.int .i32 (dlX D i))), none), (12, .t (.s (.loc 6 0)), none), (13, .t (.s (.loc 7 0)), none), (14, .t (.s (.int .i64 0)), none)]
        [.view (bytesI D), .blk 33 [.sl 2 0 m.l.length m.l.length], mOwn m.l, .blk 26 k.sv, .view (qV (Q.map (dlX D))), .view (qV (Q.map spc)), .blk 26 (runT k i (IntKind.i32.wrap (clock + dlX D i))).sv, .blk 26 (runT k i (IntKind.i32.wrap (clock + dlX D i))).sv] (fun key => ?ways1) ?cont1
      case ways1 =>
        refine c_waysH tt_ok ctWk_ok k_l32_TimerWakes [6] rfl rfl rfl ?_
        repeat' (first | exact trivial | exact ⟨rfl, trivial⟩ | (refine Exists.intro (m, (runT k i (IntKind.i32.wrap (clock + dlX D i))), 0, m) ?_; refine And.intro ⟨rfl, rfl, rfl, rfl, hrok, hT⟩ ?_) | (refine And.intro ?_ ?_) | (refine fun _ => ?_))
        all_goals
          refine WpE.into ?_ key
          first
            | exact into [0, 1, 2, 3, 4, 5, 6, 7] ⟨⟨_, rfl, rfl⟩, ⟨_, rfl, rfl⟩, ⟨_, rfl, rfl⟩, ⟨_, rfl, rfl⟩, ⟨_, rfl, rfl⟩, ⟨_, rfl, rfl⟩, ⟨_, rfl, rfl⟩, ⟨_, rfl, rfl⟩, ⟨_, rfl, rfl⟩, ⟨_, rfl, rfl⟩, ⟨_, rfl, rfl⟩, ⟨_, rfl, rfl⟩, trivial⟩ ⟨_, rfl, rfl⟩ rfl rfl rfl rfl
            | exact into [0, 1, 2, 3, 4, 5, 6, 8] ⟨⟨_, rfl, rfl⟩, ⟨_, rfl, rfl⟩, ⟨_, rfl, rfl⟩, ⟨_, rfl, rfl⟩, ⟨_, rfl, rfl⟩, ⟨_, rfl, rfl⟩, ⟨_, rfl, rfl⟩, ⟨_, rfl, rfl⟩, ⟨_, rfl, rfl⟩, ⟨_, rfl, rfl⟩, ⟨_, rfl, rfl⟩, ⟨_, rfl, rfl⟩, trivial⟩ ⟨_, rfl, rfl⟩ rfl rfl rfl rfl
            | exact into [0, 1, 2, 3, 4, 5, 6, 9] ⟨⟨_, rfl, rfl⟩, ⟨_, rfl, rfl⟩, ⟨_, rfl, rfl⟩, ⟨_, rfl, rfl⟩, ⟨_, rfl, rfl⟩, ⟨_, rfl, rfl⟩, ⟨_, rfl, rfl⟩, ⟨_, rfl, rfl⟩, ⟨_, rfl, rfl⟩, ⟨_, rfl, rfl⟩, ⟨_, rfl, rfl⟩, ⟨_, rfl, rfl⟩, trivial⟩ ⟨_, rfl, rfl⟩ rfl rfl rfl rfl
            | exact into [0, 1, 2, 3, 4, 5, 6, 10] ⟨⟨_, rfl, rfl⟩, ⟨_, rfl, rfl⟩, ⟨_, rfl, rfl⟩, ⟨_, rfl, rfl⟩, ⟨_, rfl, rfl⟩, ⟨_, rfl, rfl⟩, ⟨_, rfl, rfl⟩, ⟨_, rfl, rfl⟩, ⟨_, rfl, rfl⟩, ⟨_, rfl, rfl⟩, ⟨_, rfl, rfl⟩, ⟨_, rfl, rfl⟩, trivial⟩ ⟨_, rfl, rfl⟩ rfl rfl rfl rfl
            | exact into [0, 1, 2, 3, 4, 5, 6, 11] ⟨⟨_, rfl, rfl⟩, ⟨_, rfl, rfl⟩, ⟨_, rfl, rfl⟩, ⟨_, rfl, rfl⟩, ⟨_, rfl, rfl⟩, ⟨_, rfl, rfl⟩, ⟨_, rfl, rfl⟩, ⟨_, rfl, rfl⟩, ⟨_, rfl, rfl⟩, ⟨_, rfl, rfl⟩, ⟨_, rfl, rfl⟩, ⟨_, rfl, rfl⟩, trivial⟩ ⟨_, rfl, rfl⟩ rfl rfl rfl rfl
            | exact into [0, 1, 2, 3, 4, 5, 6, 12] ⟨⟨_, rfl, rfl⟩, ⟨_, rfl, rfl⟩, ⟨_, rfl, rfl⟩, ⟨_, rfl, rfl⟩, ⟨_, rfl, rfl⟩, ⟨_, rfl, rfl⟩, ⟨_, rfl, rfl⟩, ⟨_, rfl, rfl⟩, ⟨_, rfl, rfl⟩, ⟨_, rfl, rfl⟩, ⟨_, rfl, rfl⟩, ⟨_, rfl, rfl⟩, trivial⟩ ⟨_, rfl, rfl⟩ rfl rfl rfl rfl
      refine e_run tt_ok ctWk_ok k_l32_TimerWakes [100066, 100070, 100072, 100075, 100081, 100085] 90 (by kernel_rfl) ?_
      refine ⟨.t (.s (.bool false)), fun β => told_bl (rfl), rfl, ?_⟩
      refine ⟨.t (.s (.bool true)), fun _ β => told_tr (decide_eq_true hd), rfl, ?_⟩
      refine ⟨.t (.s (.bool false)), fun β => told_bl (rfl), rfl, ?_⟩
      refine ⟨.t (.s (.bool true)), fun _ β => told_tr (decide_eq_true hd), rfl, ?_⟩
      refine ⟨.t (.s (.bool false)), fun β => told_bl (by simp), rfl, ?_⟩
      refine ⟨fun h => absurd h (by decide), fun _ => ?_⟩
      refine ⟨.t (.s (.bool false)), fun β => told_bl (decide_eq_false (by omega)), rfl, ?_⟩
      refine ⟨fun h => absurd h (by decide), fun _ => ?_⟩
      refine e_again (i + 1, k.nobody, m, Q, c1, c2) ⟨hlt, hI', hc1, hc2⟩ (by dsimp only; omega) (into [0, 1, 2, 3, 4, 5] ⟨⟨_, rfl, rfl⟩, ⟨_, rfl, rfl⟩, ⟨_, rfl, rfl⟩, ⟨_, rfl, rfl⟩, ⟨_, rfl, rfl⟩, ⟨_, rfl, rfl⟩, ⟨_, rfl, rfl⟩, ⟨_, rfl, fvi (wrapSucc (by omega))⟩, trivial⟩ ⟨_, rfl, rfl⟩ rfl rfl rfl rfl)
    · obtain ⟨A, hA⟩ : ∃ A, Q.takeWhile (fun q => decide (dlX D q ≤ dlX D i)) = A := ⟨_, rfl⟩
      obtain ⟨B, hB⟩ : ∃ B, Q.dropWhile (fun q => decide (dlX D q ≤ dlX D i)) = B := ⟨_, rfl⟩
      obtain ⟨k', m', hT, hbf, hl', hI'⟩ := wk_wait hI hck (by omega) (by omega) hA hB
      refine c_merge [(0, .t (.s (.int .i32 clock)), none), (1, .t (.s (.sl 0 0 D.length cap)), none), (4, .t (.s (.bool false)), none), (5, .t (.s (.loc 1 0)), none), (7, .t (.s (.loc 3 0)), none),
          (8, .t (.s (.sl 4 0 (Q.map (dlX D)).length c1)), none), (9, .t (.s (.sl 5 0 (Q.map spc).length c2)), none), (10, .t (.s (.int .i64 (i : Int))), none), (11, .t (.s (.int .i32 (dlX D i))), none), (12, .t (.s (.loc 6 0)), none), (13, .t (.s (.loc 7 0)), none), (14, .t (.s (.int .i64 0)), none)]
        [.view (bytesI D), .blk 33 [.sl 2 0 m'.l.length m'.l.length], mOwn m'.l, .blk 26 k.sv, .view (qV (Q.map (dlX D))), .view (qV (Q.map spc)), .blk 26 (runT k i (IntKind.i32.wrap (clock + dlX D i))).sv, .blk 26 k'.sv] (fun key => ?ways2) ?cont2
      case ways2 =>
        refine c_waysH tt_ok ctWk_ok k_l32_TimerWakes [6] rfl rfl rfl ?_
        repeat' (first | exact trivial | exact ⟨rfl, trivial⟩ | (refine Exists.intro (m, k', 0, m') ?_; refine And.intro ⟨rfl, rfl, rfl, rfl, hrok, hT⟩ ?_) | (refine And.intro ?_ ?_) | (refine fun _ => ?_))
        all_goals
          refine WpE.into ?_ key
          first
            | exact into [0, 1, 2, 3, 4, 5, 6, 7] ⟨⟨_, rfl, rfl⟩, ⟨_, rfl, rfl⟩, ⟨_, rfl, rfl⟩, ⟨_, rfl, rfl⟩, ⟨_, rfl, rfl⟩, ⟨_, rfl, rfl⟩, ⟨_, rfl, rfl⟩, ⟨_, rfl, rfl⟩, ⟨_, rfl, rfl⟩, ⟨_, rfl, rfl⟩, ⟨_, rfl, rfl⟩, ⟨_, rfl, rfl⟩, trivial⟩ ⟨_, rfl, rfl⟩ rfl rfl rfl rfl
            | exact into [0, 1, 2, 3, 4, 5, 6, 8] ⟨⟨_, rfl, rfl⟩, ⟨_, rfl, rfl⟩, ⟨_, rfl, rfl⟩, ⟨_, rfl, rfl⟩, ⟨_, rfl, rfl⟩, ⟨_, rfl, rfl⟩, ⟨_, rfl, rfl⟩, ⟨_, rfl, rfl⟩, ⟨_, rfl, rfl⟩, ⟨_, rfl, rfl⟩, ⟨_, rfl, rfl⟩, ⟨_, rfl, rfl⟩, trivial⟩ ⟨_, rfl, rfl⟩ rfl rfl rfl rfl
            | exact into [0, 1, 2, 3, 4, 5, 6, 9] ⟨⟨_, rfl, rfl⟩, ⟨_, rfl, rfl⟩, ⟨_, rfl, rfl⟩, ⟨_, rfl, rfl⟩, ⟨_, rfl, rfl⟩, ⟨_, rfl, rfl⟩, ⟨_, rfl, rfl⟩, ⟨_, rfl, rfl⟩, ⟨_, rfl, rfl⟩, ⟨_, rfl, rfl⟩, ⟨_, rfl, rfl⟩, ⟨_, rfl, rfl⟩, trivial⟩ ⟨_, rfl, rfl⟩ rfl rfl rfl rfl
            | exact into [0, 1, 2, 3, 4, 5, 6, 10] ⟨⟨_, rfl, rfl⟩, ⟨_, rfl, rfl⟩, ⟨_, rfl, rfl⟩, ⟨_, rfl, rfl⟩, ⟨_, rfl, rfl⟩, ⟨_, rfl, rfl⟩, ⟨_, rfl, rfl⟩, ⟨_, rfl, rfl⟩, ⟨_, rfl, rfl⟩, ⟨_, rfl, rfl⟩, ⟨_, rfl, rfl⟩, ⟨_, rfl, rfl⟩, trivial⟩ ⟨_, rfl, rfl⟩ rfl rfl rfl rfl
            | exact into [0, 1, 2, 3, 4, 5, 6, 11] ⟨⟨_, rfl, rfl⟩, ⟨_, rfl, rfl⟩, ⟨_, rfl, rfl⟩, ⟨_, rfl, rfl⟩, ⟨_, rfl, rfl⟩, ⟨_, rfl, rfl⟩, ⟨_, rfl, rfl⟩, ⟨_, rfl, rfl⟩, ⟨_, rfl, rfl⟩, ⟨_, rfl, rfl⟩, ⟨_, rfl, rfl⟩, ⟨_, rfl, rfl⟩, trivial⟩ ⟨_, rfl, rfl⟩ rfl rfl rfl rfl
            | exact into [0, 1, 2, 3, 4, 5, 6, 12] ⟨⟨_, rfl, rfl⟩, ⟨_, rfl, rfl⟩, ⟨_, rfl, rfl⟩, ⟨_, rfl, rfl⟩, ⟨_, rfl, rfl⟩, ⟨_, rfl, rfl⟩, ⟨_, rfl, rfl⟩, ⟨_, rfl, rfl⟩, ⟨_, rfl, rfl⟩, ⟨_, rfl, rfl⟩, ⟨_, rfl, rfl⟩, ⟨_, rfl, rfl⟩, trivial⟩ ⟨_, rfl, rfl⟩ rfl rfl rfl rfl
      refine e_run tt_ok ctWk_ok k_l32_TimerWakes [100066, 100070, 100072, 100075, 100081, 100085] 90 (by kernel_rfl) ?_
      refine ⟨.t (.s (.bool false)), fun β => told_bl (rfl), rfl, ?_⟩
      refine ⟨.t (.s (.bool false)), fun _ β => told_bl (decide_eq_false hd), rfl, ?_⟩
      refine ⟨.t (.s (.bool false)), fun β => told_bl (by rw [hbf]; rfl), rfl, ?_⟩
      refine ⟨.t (.s (.bool false)), fun _ β => told_bl (decide_eq_false hd), rfl, ?_⟩
      refine ⟨.t (.s (.bool false)), fun β => told_bl (by simp), rfl, ?_⟩
      refine ⟨fun h => absurd h (by decide), fun _ => ?_⟩
      refine ⟨.t (.s (.bool true)), fun β => told_tr (decide_eq_true (by omega)), rfl, ?_⟩
      refine ⟨fun _ => ?_, fun h => absurd h (by decide)⟩
      have hAB : A ++ B = Q := by rw [← hA, ← hB]; exact List.takeWhile_append_dropWhile
      have hplc : plcN (Q.map (dlX D)) (dlX D i) = A.length := by unfold plcN; rw [List.takeWhile_map, List.length_map, ← hA]; rfl
      have hAl : A.length ≤ Q.length := by rw [← hAB]; simp
      have hQn := hI.nn
      have htk : ∀ f : Nat → Int, (Q.map f).take A.length ++ f i :: (Q.map f).drop A.length = (A ++ i :: B).map f := fun f => by
        rw [← hAB]; simp
      refine ⟨(Q.map (dlX D), A.length), ⟨rfl, rfl, by dsimp only; rw [List.length_map]; omega, hplc⟩, ?_⟩
      refine ⟨(Q.map (dlX D), A.length), ⟨rfl, rfl, rfl, by dsimp only; rw [List.length_map]; exact hAl, by dsimp only; rw [List.length_map]; omega, by dsimp only; rw [List.length_map]; exact hc1⟩, fun d1 hd1 => ?_⟩
      refine ⟨hi50, ⟨(Q.map spc, A.length), ⟨rfl, rfl, rfl, by dsimp only; rw [List.length_map]; exact hAl, by dsimp only; rw [List.length_map]; omega, by dsimp only; rw [List.length_map]; exact hc2⟩, fun d2 hd2 => ?_⟩⟩
      refine e_freeze 10 rfl rfl ?_
      refine e_freeze 11 rfl rfl ?_
      have hd1' : (Q.map (dlX D)).length + 1 ≤ d1 := hd1
      have hd2' : (Q.map spc).length + 1 ≤ d2 := hd2
      rw [List.length_map] at hd1' hd2'
      have hlAB : (A ++ i :: B).length = Q.length + 1 := by rw [← hAB]; simp; omega
      refine e_again (i + 1, k'.nobody, m', A ++ i :: B, d1, d2) ⟨hlt, hI', by dsimp only; omega, by dsimp only; omega⟩ (by dsimp only; omega) (into [0, 1, 2, 3, 10, 11] ⟨⟨_, rfl, rfl⟩, ⟨_, rfl, rfl⟩, ⟨_, rfl, rfl⟩, ⟨_, rfl, rfl⟩, ⟨_, rfl, rfl⟩, ⟨_, rfl, ?_⟩, ⟨_, rfl, ?_⟩, ⟨_, rfl, fvi (wrapSucc (by omega))⟩, trivial⟩ ⟨_, rfl, ?_⟩ rfl rfl rfl rfl)
      · show FV.t (.s (.sl 10 0 ((Q.map (dlX D)).length + 1) d1)) = .t (.s (.sl 10 0 ((A ++ i :: B).map (dlX D)).length d1))
        rw [List.length_map, List.length_map, hlAB]
      · show FV.t (.s (.sl 11 0 ((Q.map spc).length + 1) d2)) = .t (.s (.sl 11 0 ((A ++ i :: B).map spc).length d2))
        rw [List.length_map, List.length_map, hlAB]
      · have e1 := htk (dlX D)
        have e2 := htk spc
        dsimp only
        rw [← e1, ← e2]; rfl
  · have hQn := hI.nn
    have hJ := wk_start hI hck
    have hQnd := hI.q.nd
    refine c_loop (α := Nat × Core × Ram) (fun x => x.1 ≤ 59 ∧ WkJ clock D Q x.1 x.2.1 x.2.2) (fun x => 60 - x.1)
      (fun x => [(0, .t (.s (.int .i32 clock)), none), (4, .t (.s (.bool false)), none), (5, .t (.s (.loc 1 0)), none), (7, .t (.s (.loc 3 0)), none),
        (8, .t (.s (.sl 4 0 (Q.map (dlX D)).length c1)), none), (9, .t (.s (.sl 5 0 (Q.map spc).length c2)), none), (16, .t (.s (.int .i64 ((x.1 + 1 : Nat) : Int))), none)])
      (fun x => [.view (bytesI D), .blk 33 [.sl 2 0 x.2.2.l.length x.2.2.l.length], mOwn x.2.2.l, .blk 26 x.2.1.sv, .view (qV (Q.map (dlX D))), .view (qV (Q.map spc))]) (0, k, m) ⟨Nat.zero_le _, hJ⟩ ?_ ?_
    · exact into [0, 1, 2, 3, 4, 5] ⟨⟨_, rfl, rfl⟩, ⟨_, rfl, rfl⟩, ⟨_, rfl, rfl⟩, ⟨_, rfl, rfl⟩, ⟨_, rfl, rfl⟩, ⟨_, rfl, rfl⟩, ⟨_, rfl, rfl⟩, trivial⟩ ⟨_, rfl, rfl⟩ rfl rfl rfl rfl
    rintro ⟨n, k, m⟩ ⟨hn, hJ⟩
    simp only at hn hJ
    dsimp only
    refine c_run' tt_ok ctWk_ok k_l32_TimerWakes [100110, 100119] 90 (by kernel_rfl) (by kernel_rfl) ?_
    refine ⟨fun h1 => ?_, fun h1 => ?_⟩
    · have hnl : n < 59 := by have := of_decide_eq_true h1; omega
      obtain ⟨k', m', hT, hJ'⟩ := wk_tick hJ (by omega) hQnd (by omega)
      refine ⟨(m, k', 0, m'), ⟨rfl, rfl, rfl, rfl, hJ.ok, hT⟩, ?_⟩
      refine ⟨.t (.s (.bool false)), fun β => told_bl rfl, rfl, ?_⟩
      refine ⟨.t (.s (.bool false)), fun β => told_bl ?_, rfl, ?_⟩
      · show (bif false then true else (k'.k0 != IntKind.i32.wrap (clock + IntKind.i32.wrap ((n + 1 : Nat) : Int)))) = false
        rw [hJ'.ck, show IntKind.i32.wrap ((n + 1 : Nat) : Int) = ((n + 1 : Nat) : Int) by rw [IntKind.wrap_i32]; omega]
        simp
      refine ⟨fun h => absurd h (by decide), fun _ => ?_⟩
      show WpC _ _ _ _ _
      obtain ⟨p, hp⟩ : ∃ p, (fun q => decide (dlX D q < ((n + 1 : Nat) : Int))) = p := ⟨_, rfl⟩
      have hpq : ∀ q, p q = decide (dlX D q < ((n + 1 : Nat) : Int)) := fun q => by rw [← hp]
      have hJr := hJ'.r
      have hJq := hJ'.q
      rw [hp] at hJr hJq
      have hlm : (Q.map (dlX D)).length = Q.length := List.length_map ..
      have hls : (Q.map spc).length = Q.length := List.length_map ..
      have hwn : IntKind.i32.wrap ((n + 1 : Nat) : Int) = ((n + 1 : Nat) : Int) := by rw [IntKind.wrap_i32]; omega
      refine c_loop (α := Nat) (fun i => i ≤ Q.length ∧ (Q.takeWhile p).length = i + ((Q.drop i).takeWhile p).length) (fun i => Q.length - i)
        (fun i => [(0, .t (.s (.int .i32 clock)), none), (4, .t (.s (.bool false)), none), (5, .t (.s (.loc 1 0)), none), (7, .t (.s (.loc 3 0)), none),
          (8, .t (.s (.sl 4 0 (Q.map (dlX D)).length c1)), none), (9, .t (.s (.sl 5 0 (Q.map spc).length c2)), none), (16, .t (.s (.int .i64 ((n + 1 : Nat) : Int))), none), (19, .t (.s (.int .i64 (i : Int))), none)])
        (fun _ => [.view (bytesI D), .blk 33 [.sl 2 0 m'.l.length m'.l.length], mOwn m'.l, .blk 26 k'.sv, .view (qV (Q.map (dlX D))), .view (qV (Q.map spc))]) 0 ⟨Nat.zero_le _, by simp⟩ ?_ ?_
      · exact into [0, 1, 2, 3, 4, 5] ⟨⟨_, rfl, rfl⟩, ⟨_, rfl, rfl⟩, ⟨_, rfl, rfl⟩, ⟨_, rfl, rfl⟩, ⟨_, rfl, rfl⟩, ⟨_, rfl, rfl⟩, ⟨_, rfl, rfl⟩, ⟨_, rfl, rfl⟩, trivial⟩ ⟨_, rfl, rfl⟩ rfl rfl rfl rfl
      rintro j ⟨hj, hjw⟩
      refine c_run' tt_ok ctWk_ok k_l32_TimerWakes [100150, 100154, 100162, 100169] 90 (by kernel_rfl) (by kernel_rfl) ?_
      refine ⟨j, fun hh => ?_, ?_⟩
      · have := of_decide_eq_true hh; rw [qV_len, hlm]; rw [hls] at this; refine ⟨rfl, by omega, ?_⟩; rw [Nat.zero_add, Nat.zero_add, Nat.mul_one]; omega
      refine ⟨.int .i32 ((Q.map (dlX D)).getD j 0), rfl, fun hh => ?_, ?_⟩
      · have hjl : j < (Q.map (dlX D)).length := by have := of_decide_eq_true hh; rw [hls] at this; omega
        rw [show 0 + j * (0 + 1) = j by omega]
        exact qV_at (by rw [List.getD_eq_getElem?_getD, List.getElem?_eq_getElem hjl]; rfl)
      have hcond : j < Q.length → (Q.map (dlX D)).getD j 0 = dlX D (Q.getD j 0) := fun hh => by
        rw [List.getD_eq_getElem?_getD, List.getD_eq_getElem?_getD, List.getElem?_map, List.getElem?_eq_getElem hh]; rfl
      refine ⟨fun h2 => ?_, fun h2 => ?_⟩
      · rw [hls, hwn] at h2
        have hjl : j < Q.length := by
          by_cases hh : (j : Int) < (Q.length : Int)
          · omega
          · rw [show decide ((j : Int) < (Q.length : Int)) = false by simpa using hh] at h2; cases h2
        have hpj : p (Q.getD j 0) = true := by
          rw [show decide ((j : Int) < (Q.length : Int)) = true by simpa using hjl, cond_true, hcond hjl] at h2
          rw [hpq]; exact h2
        have hx : Q.getD j 0 = Q[j] := by rw [List.getD_eq_getElem?_getD, List.getElem?_eq_getElem hjl]; rfl
        rw [List.drop_eq_getElem_cons hjl, List.takeWhile_cons_of_pos (by rw [← hx]; exact hpj), List.length_cons] at hjw
        exact e_again (j + 1) ⟨hjl, by omega⟩ (by omega) (into [0, 1, 2, 3, 4, 5] ⟨⟨_, rfl, rfl⟩, ⟨_, rfl, rfl⟩, ⟨_, rfl, rfl⟩, ⟨_, rfl, rfl⟩, ⟨_, rfl, rfl⟩, ⟨_, rfl, rfl⟩, ⟨_, rfl, rfl⟩, ⟨_, rfl, fvi (wrapSucc (by omega))⟩, trivial⟩ ⟨_, rfl, rfl⟩ rfl rfl rfl rfl)
      rw [hls, hwn] at h2
      have hjR : (Q.takeWhile p).length = j := by
        by_cases hjl : j < Q.length
        · have hpj : p (Q.getD j 0) = false := by
            rw [show decide ((j : Int) < (Q.length : Int)) = true by simpa using hjl, cond_true, hcond hjl] at h2
            rw [hpq]; exact h2
          have hx : Q.getD j 0 = Q[j] := by rw [List.getD_eq_getElem?_getD, List.getElem?_eq_getElem hjl]; rfl
          rw [List.drop_eq_getElem_cons hjl, List.takeWhile_cons_of_neg (by rw [← hx, hpj]; decide)] at hjw
          simpa using hjw
        · rw [List.drop_eq_nil_of_le (by omega)] at hjw
          simpa using hjw
      have htR : Q.take j = Q.takeWhile p := by rw [← hjR]; exact (tw_take p Q).1
      have hdR : Q.drop j = Q.dropWhile p := by rw [← hjR]; exact (tw_take p Q).2
      have hdl : (Q.dropWhile p).length ≤ Q.length := (List.dropWhile_sublist _).length_le
      have hseg : ∀ L : List Int, seg (qV L) 0 (L.length * 1) = qV L := fun L => by rw [seg_qV, List.drop_zero, Nat.mul_one, List.take_length]
      refine ⟨(m', (Q.takeWhile p).map spc, 0), ⟨rfl, rfl, rfl, rfl, ⟨hJ'.ok, by decide, by decide⟩, que_law (o := false) hJ'.len hJr (by omega)⟩, fun cq hcq => ?_⟩
      refine ⟨(m', (Q.dropWhile p).map spc, 0), ⟨rfl, rfl, rfl, rfl, ⟨hJ'.ok, by decide, by decide⟩, tqe_law (o := false) (p := 0) hJ'.len hJq (by omega) rfl rfl⟩, fun ct hct => ?_⟩
      refine ⟨.t (.s (.bool false)), fun β => told_bl rfl, rfl, ?_⟩
      refine ⟨.t (.s (.bool false)), fun β => told_bl rfl, rfl, ?_⟩
      refine ⟨fun _ => ⟨0, j, ⟨_, _, rfl, rfl, rfl, rfl⟩, ⟨by omega, by omega⟩, ?_⟩, fun h => absurd h (by decide)⟩
      refine ⟨fun _ => ⟨((Q.takeWhile p).map spc, (Q.takeWhile p).map spc), ⟨hseg _, rfl, ?_, ?_, ?_⟩, ?_⟩, fun h => absurd h (by decide)⟩
      · dsimp only
        simp only [Nat.mul_one, Nat.add_zero, Nat.sub_zero, seg_qV, List.drop_zero, List.take_take, Nat.min_self]
        rw [← List.map_take, htR]
      · dsimp only; rw [List.length_map, hjR]; omega
      · dsimp only; rw [List.length_map, hjR]; omega
      refine ⟨.t (.s (.bool false)), fun β => told_bl (by simp), rfl, ?_⟩
      refine ⟨fun _ => ⟨j, (Q.map spc).length, ⟨_, _, rfl, rfl, rfl, rfl⟩, ⟨by omega, by omega⟩, ?_⟩, fun h => absurd h (by decide)⟩
      refine ⟨fun _ => ⟨((Q.dropWhile p).map spc, (Q.dropWhile p).map spc), ⟨hseg _, rfl, ?_, ?_, ?_⟩, ?_⟩, fun h => absurd h (by decide)⟩
      · dsimp only
        simp only [Nat.mul_one, Nat.zero_add, seg_qV, List.drop_zero, List.take_take, Nat.min_self]
        rw [List.take_of_length_le (by simp), ← List.map_drop, hdR]
      · dsimp only; rw [hls, List.length_map, ← hdR, List.length_drop]
      · dsimp only; rw [List.length_map]; omega
      refine ⟨.t (.s (.bool false)), fun β => told_bl (by simp), rfl, ?_⟩
      refine ⟨fun h => absurd h (by decide), fun _ => ?_⟩
      refine e_again (n + 1, k', m') ⟨by dsimp only; omega, hJ'⟩ (by dsimp only; omega) (into [0, 1, 2, 3, 4, 5] ⟨⟨_, rfl, rfl⟩, ⟨_, rfl, rfl⟩, ⟨_, rfl, rfl⟩, ⟨_, rfl, rfl⟩, ⟨_, rfl, rfl⟩, ⟨_, rfl, rfl⟩, ⟨_, rfl, fvi (wrapSucc (by omega))⟩, trivial⟩ ⟨_, rfl, rfl⟩ rfl rfl rfl rfl)
    · exact fin_k tt_ok (rs := rs_l32_TimerWakes) rfl rfl hK [0] rfl rfl rfl rfl rfl rfl
end Go.Proofs
