/- TimerSorted: the space, the times; the law. -/
import Derived.Test.YtcjaggapamngmaaWalkI

namespace Go.Proofs
open Go Go.Sx
set_option maxRecDepth 10000
theorem space_c (i : Int) (h : 0 ≤ i ∧ i < 50) : Con Try.prog f_l32_space [.s (.int .i64 i)] [] (.ret (.t (.s (.int .i32 (-2147483488 + 32 * i)))) []) := by
  intro K hK
  refine enter fn_l32_space rfl nt_l32_space rfl rfl (fun φ w0 β0 F => ?_)
  refine c_run tt_ok (ct := []) trivial k_l32_space [] 60 (by kernel_rfl) ?_
  have e : IntKind.i32.wrap (-2147483488 + IntKind.i32.wrap (32 * IntKind.i32.wrap i)) = -2147483488 + 32 * i := by
    rw [IntKind.wrap_i32, IntKind.wrap_i32, IntKind.wrap_i32]; omega
  rw [← e] at hK
  exact fin_k tt_ok (rs := rs_l32_space) rfl rfl hK [] rfl rfl rfl rfl rfl rfl
def spSpace : List TV → Option (Prop × FV)
  | [.s (.int .i64 i)] => some (0 ≤ i ∧ i < 50, .t (.s (.int .i32 (-2147483488 + 32 * i))))
  | _ => none
theorem ceSpace : CEok Try.prog f_l32_space spSpace := ⟨cal_l32_space, fun args p v h hp => by
  unfold spSpace at h; split at h
  · cases h; exact (space_c _ hp).pure
  · cases h⟩
/-- Times are compared by their offsets. -/
theorem aft_off (base : Int) {x y : Int} (hx : 0 ≤ x ∧ x < 1048576) (hy : 0 ≤ y ∧ y < 1048576) : aftB (IntKind.i32.wrap (base + x)) (IntKind.i32.wrap (base + y)) = decide (y < x) := by
  unfold aftB
  congr 1
  rw [IntKind.wrap_i32, IntKind.wrap_i32, IntKind.wrap_i32]
  apply propext
  constructor <;> intro h <;> omega
theorem and20 (v : Int) : 0 ≤ bits .and .i32 v 1048575 ∧ bits .and .i32 v 1048575 < 1048576 := by
  have e : bits .and .i32 v 1048575 = IntKind.i32.wrap ((BitVec.ofInt 32 v &&& BitVec.ofInt 32 1048575).toNat : Int) := rfl
  have hle : (BitVec.ofInt 32 v &&& BitVec.ofInt 32 1048575).toNat ≤ 1048575 := by
    rw [BitVec.toNat_and]
    exact Nat.le_trans Nat.and_le_right (by decide)
  rw [e, IntKind.wrap_i32]; omega
noncomputable abbrev ctSo : CT := [(f_l32_head, eHead), (f_mem_New, eNew), (f_r29_Reset, eReset), (f_l32_space, .pure spSpace), (f_timer_Insert, eInsert), (f_timer_Queue, eTQueue), (f_timer_Remove, eTRem), (f_l32_place, eLplace), (f_l32_put, eLput), (f_r29_Same, .rd rdSame)]
theorem ctSo_ok : CTok Try.prog ctSo := ⟨con_ok cal_l32_head _, con_ok cal_mem_New _, con_ok cal_r29_Reset _, ceSpace, con_ok cal_timer_Insert _, con_ok cal_timer_Queue _, con_ok cal_timer_Remove _, con_ok cal_l32_place _, con_ok cal_l32_put _, re_same, trivial⟩
theorem tmod_nat (a b : Nat) : ((a : Int)).tmod (b : Int) = ((a % b : Nat) : Int) := by rw [Int.tmod_eq_emod_of_nonneg (by omega)]; rfl
theorem tw_all {p : Nat → Bool} : ∀ {Q : List Nat} {q : Nat}, q ∈ Q.takeWhile p → p q = true
  | [], q, h => by simp at h
  | a :: t, q, h => by
    cases ha : p a with
    | false => rw [List.takeWhile_cons_of_neg (by rw [ha]; decide)] at h; simp at h
    | true =>
      rw [List.takeWhile_cons_of_pos ha] at h
      rcases List.mem_cons.1 h with rfl | h
      · exact ha
      · exact tw_all h
def offX (D : List Int) (i : Nat) : Int := bits .and .i32 (D.getD i 0) 1048575
set_option maxHeartbeats 4000000 in
theorem TimerSorted_c (base which pri : Int) (D : List Int) (cap : Nat) (hwh : 0 ≤ which ∧ which ≤ 255) : Con Try.prog f_l32_TimerSorted [.s (.int .i32 base), .s (.sl 0 0 D.length cap), .s (.int .u8 which), .s (.int .i64 pri)] [.view (qV D)] (.ret (.t (.s (.bool true))) [.view (qV D)]) := by
  intro K hK
  refine enter fn_l32_TimerSorted rfl nt_l32_TimerSorted rfl rfl (fun φ w0 β0 F => ?_)
  refine c_run tt_ok ctSo_ok k_l32_TimerSorted [] 90 (by kernel_rfl) ?_
  refine ⟨fun h0 => ?_, fun h0 => ?_⟩
  · exact fin_k tt_ok (rs := rs_l32_TimerSorted) rfl rfl hK [0] rfl rfl rfl rfl rfl rfl
  have hD : D.length ≤ 40 := by
    by_cases hh : (D.length : Int) > 40
    · rw [show decide ((D.length : Int) > 40) = true by simpa using hh] at h0; cases h0
    · omega
  have hpri : pri = 0 ∨ pri = 1 := by
    rw [show decide ((D.length : Int) > 40) = false by simp; omega] at h0
    by_cases h1 : pri = 0
    · exact .inl h1
    · by_cases h2 : pri = 1
      · exact .inr h2
      · simp [h1, h2] at h0
  obtain ⟨o, ho⟩ : ∃ o, (pri == 1) = o := ⟨_, rfl⟩
  refine ⟨fun _ => ?_, fun h => absurd h (by decide)⟩
  show WpC _ _ _ _ _
  refine WpC.into (nilSlot 12 21 1 rfl) ?_
  refine WpC.into (nilSlot 13 21 1 rfl) ?_
  refine c_freeze 4 rfl rfl ?_
  refine c_freeze 5 rfl rfl ?_
  refine c_loop (α := Nat × Core × Ram × List Nat × Nat × Nat) (fun x => x.1 ≤ D.length ∧ x.2.2.1.l.length = 2048 ∧ x.2.1.ok ∧ TQ x.2.2.1 (x.2.1.tm o) (fun i => IntKind.i32.wrap (base + offX D i)) x.2.2.2.1 ∧ (∀ q ∈ x.2.2.2.1, q < x.1) ∧ x.2.2.2.1.length = x.1 ∧ x.2.2.2.1.length ≤ x.2.2.2.2.1 ∧ x.2.2.2.1.length ≤ x.2.2.2.2.2) (fun x => D.length - x.1)
    (fun x => [(0, .t (.s (.int .i32 base)), none), (1, .t (.s (.sl 0 0 D.length cap)), none), (2, .t (.s (.int .u8 which)), none), (3, .t (.s (.int .i64 pri)), none), (8, .t (.s (.bool false)), none), (9, .t (.s (.loc 1 0)), none), (11, .t (.s (.loc 3 0)), none),
      (12, .t (.s (.sl 4 0 (x.2.2.2.1.map (offX D)).length x.2.2.2.2.1)), none), (13, .t (.s (.sl 5 0 (x.2.2.2.1.map spc).length x.2.2.2.2.2)), none), (14, .t (.s (.int .i64 (x.1 : Int))), none)])
    (fun x => [.view (qV D), .blk 33 [.sl 2 0 x.2.2.1.l.length x.2.2.1.l.length], mOwn x.2.2.1.l, .blk 26 x.2.1.sv, .view (qV (x.2.2.2.1.map (offX D))), .view (qV (x.2.2.2.1.map spc))]) (0, K0, Ram.zz, [], 0, 0) ?_ ?_ ?_
  · refine ⟨Nat.zero_le _, by simp [Ram.zz], by constructor <;> exact ⟨by decide, by decide⟩, ⟨by cases o <;> rfl, trivial, by simp, by simp, by simp⟩, by simp, rfl, Nat.le_refl _, Nat.le_refl _⟩
  · exact into [0, 1, 2, 3, 4, 5] ⟨⟨_, rfl, rfl⟩, ⟨_, rfl, rfl⟩, ⟨_, rfl, rfl⟩, ⟨_, rfl, rfl⟩, ⟨_, rfl, rfl⟩, ⟨_, rfl, rfl⟩, ⟨_, rfl, rfl⟩, ⟨_, rfl, rfl⟩, ⟨_, rfl, rfl⟩, ⟨_, rfl, rfl⟩, trivial⟩ ⟨_, rfl, rfl⟩ rfl rfl rfl rfl
  · rintro ⟨i, k, m, Q, c1, c2⟩ ⟨hi, hl, hok, hQ, hlt, hlen, hc1, hc2⟩
    simp only at hi hl hok hQ hlt hlen hc1 hc2
    dsimp only
    refine c_run' tt_ok ctSo_ok k_l32_TimerSorted [100090, 100096] 90 (by kernel_rfl) (by kernel_rfl) ?_
    refine ⟨fun h1 => ?_, fun h1 => ?_⟩
    · have hilt : i < D.length := by have := of_decide_eq_true h1; omega
      refine ⟨i, ⟨rfl, hilt, by rw [qV_len, Nat.zero_add, Nat.zero_add, Nat.mul_one]; omega⟩, .int .i32 (D.getD i 0), rfl, ?_, ?_⟩
      · rw [show 0 + i * (0 + 1) = i by omega]
        exact qV_at (by rw [List.getD_eq_getElem?_getD, List.getElem?_eq_getElem hilt]; rfl)
      obtain ⟨A, hA⟩ : ∃ A, Q.takeWhile (fun q => decide (offX D q ≤ offX D i)) = A := ⟨_, rfl⟩
      obtain ⟨B, hB⟩ : ∃ B, Q.dropWhile (fun q => decide (offX D q ≤ offX D i)) = B := ⟨_, rfl⟩
      have hAB : A ++ B = Q := by rw [← hA, ← hB]; exact List.takeWhile_append_dropWhile
      have hr : ∀ q, 0 ≤ offX D q ∧ offX D q < 1048576 := fun q => and20 _
      obtain ⟨k', m', hIns, hl', hQ', hk', _⟩ := ins_law (A := A) (B := B) (T := fun q => IntKind.i32.wrap (base + offX D q)) (j := i) (at' := IntKind.i32.wrap (base + offX D i)) (p := pri) (o := o) (k := k) hl (by rw [hAB]; exact hQ) (by omega) (by rw [hAB]; intro hm; exact absurd (hlt i hm) (Nat.lt_irrefl _)) (I32_wrap _)
        (fun q hq => by rw [aft_off base (hr q) (hr i)]; have := tw_all (hA ▸ hq); simpa using this)
        (fun b t hb => by
          rw [aft_off base (hr b) (hr i)]
          have h2 := List.head?_dropWhile_not (fun q => decide (offX D q ≤ offX D i)) Q
          rw [hB, hb] at h2
          simpa using h2)
        (by rw [hAB]; omega) ho
      have hpb : priB pri = true := by rcases hpri with rfl | rfl <;> rfl
      have hT : tinR k m (spc i) (IntKind.i32.wrap (base + offX D i)) pri = (k', 0, m') := by unfold tinR; rw [hpb, hIns]; rfl
      have hok' := insR_ok hok (spc_I32 (by omega)) hIns
      have hplc : plcN (Q.map (offX D)) (offX D i) = A.length := by unfold plcN; rw [List.takeWhile_map, List.length_map, ← hA]; rfl
      have hAl : A.length ≤ Q.length := by rw [← hAB]; simp
      have htk : ∀ f : Nat → Int, (Q.map f).take A.length ++ f i :: (Q.map f).drop A.length = (A ++ i :: B).map f := fun f => by
        rw [← hAB]; simp
      show WpC _ _ _ _ _
      refine c_waysH tt_ok ctSo_ok k_l32_TimerSorted [3] rfl rfl rfl ?_
      repeat' (first | exact trivial | exact ⟨rfl, trivial⟩ | (refine And.intro (show 0 ≤ (i : Int) ∧ (i : Int) < 50 by omega) ?_) | (refine Exists.intro (m, k', 0, m') ?_; refine And.intro ⟨rfl, rfl, rfl, rfl, ⟨hok, spc_I32 (i := i) (by omega), by omega, by omega⟩, hT⟩ ?_) | (refine And.intro ?_ ?_) | (refine fun _ => ?_))
      all_goals
        refine e_run tt_ok ctSo_ok k_l32_TimerSorted [] 90 (by kernel_rfl) ?_
        refine ⟨fun h => absurd (show ((0 : Int) != 0) = true from h) (by decide), fun _ => ?_⟩
        refine ⟨(Q.map (offX D), A.length), ⟨rfl, rfl, by dsimp only; rw [List.length_map]; omega, hplc⟩, ?_⟩
        refine ⟨(Q.map (offX D), A.length), ⟨rfl, rfl, rfl, by dsimp only; rw [List.length_map]; exact hAl, by dsimp only; rw [List.length_map]; omega, by dsimp only; rw [List.length_map]; exact hc1⟩, fun d1 hd1 => ?_⟩
        refine ⟨⟨by omega, by omega⟩, ⟨(Q.map spc, A.length), ⟨rfl, rfl, rfl, by dsimp only; rw [List.length_map]; exact hAl, by dsimp only; rw [List.length_map]; omega, by dsimp only; rw [List.length_map]; exact hc2⟩, fun d2 hd2 => ?_⟩⟩
        refine e_freeze 7 rfl rfl ?_
        refine e_freeze 8 rfl rfl ?_
        have hd1' : (Q.map (offX D)).length + 1 ≤ d1 := hd1
        have hd2' : (Q.map spc).length + 1 ≤ d2 := hd2
        rw [List.length_map] at hd1' hd2'
        have hlAB : (A ++ i :: B).length = Q.length + 1 := by rw [← hAB]; simp; omega
        have hfun : upd (fun q => IntKind.i32.wrap (base + offX D q)) i (IntKind.i32.wrap (base + offX D i)) = fun q => IntKind.i32.wrap (base + offX D q) := by
          funext q; unfold upd; by_cases e : q = i <;> simp [e]
        refine e_again (i + 1, k', m', A ++ i :: B, d1, d2) ⟨hilt, hl', hok', hfun ▸ hQ', ?_, by dsimp only; omega, by dsimp only; omega, by dsimp only; omega⟩ (by dsimp only; omega) (into [0, 1, 2, 3, 7, 8] ⟨⟨_, rfl, rfl⟩, ⟨_, rfl, rfl⟩, ⟨_, rfl, rfl⟩, ⟨_, rfl, rfl⟩, ⟨_, rfl, rfl⟩, ⟨_, rfl, rfl⟩, ⟨_, rfl, rfl⟩, ⟨_, rfl, ?_⟩, ⟨_, rfl, ?_⟩, ⟨_, rfl, ?_⟩, trivial⟩ ⟨_, rfl, ?_⟩ rfl rfl rfl rfl)
        · intro q hq
          dsimp only at hq ⊢
          rcases List.mem_append.1 hq with hq | hq
          · have := hlt q (by rw [← hAB]; exact List.mem_append_left _ hq); omega
          · rcases List.mem_cons.1 hq with rfl | hq
            · omega
            · have := hlt q (by rw [← hAB]; exact List.mem_append_right _ hq); omega
        · show FV.t (.s (.sl 7 0 ((Q.map (offX D)).length + 1) d1)) = .t (.s (.sl 7 0 ((A ++ i :: B).map (offX D)).length d1))
          rw [List.length_map, List.length_map, hlAB]
        · show FV.t (.s (.sl 8 0 ((Q.map spc).length + 1) d2)) = .t (.s (.sl 8 0 ((A ++ i :: B).map spc).length d2))
          rw [List.length_map, List.length_map, hlAB]
        · show FV.t (.s (.int .i64 (IntKind.i64.wrap ((i : Int) + 1)))) = .t (.s (.int .i64 ((i + 1 : Nat) : Int)))
          rw [wrap64 (by omega) (by omega)]; rfl
        · have e1 := htk (offX D)
          have e2 := htk spc
          dsimp only
          rw [← e1, ← e2]; rfl
    · have hpb : priB pri = true := by rcases hpri with rfl | rfl <;> rfl
      have hq := tqe_law (p := pri) hl hQ (by omega) hpb ho
      refine ⟨(m, Q.map spc, 0), ⟨rfl, rfl, rfl, rfl, ⟨hok, by omega, by omega⟩, hq⟩, fun cq hcq => ?_⟩
      refine ⟨.t (.s (.bool false)), fun β => told_bl rfl, rfl, ?_⟩
      have hseg : ∀ L : List Int, seg (qV L) 0 (L.length * 1) = qV L := fun L => by rw [seg_qV, List.drop_zero, Nat.mul_one, List.take_length]
      refine ⟨fun _ => ⟨(Q.map spc, Q.map spc), ⟨hseg _, rfl, hseg _, rfl, by dsimp only; rw [List.length_map]; omega⟩, ?_⟩, fun h => absurd h (by decide)⟩
      refine ⟨.t (.s (.bool false)), fun β => told_bl (by simp), rfl, ?_⟩
      refine ⟨fun h => absurd h (by decide), fun _ => ?_⟩
      refine ⟨fun h2 => ?_, fun h2 => ?_⟩
      · exact fin_k tt_ok (rs := rs_l32_TimerSorted) rfl rfl hK [0] rfl rfl rfl rfl rfl rfl
      have hQ0 : Q.length ≠ 0 := by
        intro e
        rw [List.length_map, e] at h2
        exact absurd h2 (by decide)
      obtain ⟨wn, hwn⟩ : ∃ wn : Nat, which = (wn : Int) := ⟨which.toNat, by omega⟩
      obtain ⟨r, hr⟩ : ∃ r, wn % Q.length = r := ⟨_, rfl⟩
      have hrl : r < Q.length := by rw [← hr]; exact Nat.mod_lt _ (by omega)
      refine ⟨fun e => by rw [List.length_map] at e; omega, ?_⟩
      have hrem : (IntKind.i64.wrap which).tmod ((List.map spc Q).length : Int) = (r : Int) := by
        rw [hwn, wrap64 (by omega) (by omega), List.length_map, tmod_nat, hr]
      show WpC _ _ _ _ _
      rw [hrem]
      obtain ⟨A, hA⟩ : ∃ A, Q.take r = A := ⟨_, rfl⟩
      obtain ⟨j, hj⟩ : ∃ j, Q[r] = j := ⟨_, rfl⟩
      obtain ⟨B, hB⟩ : ∃ B, Q.drop (r + 1) = B := ⟨_, rfl⟩
      have hAl : A.length = r := by rw [← hA, List.length_take]; omega
      have hAB : A ++ j :: B = Q := by rw [← hA, ← hj, ← hB, ← List.drop_eq_getElem_cons hrl]; exact List.take_append_drop r Q
      obtain ⟨k', m', hRem, hl', hQ', hk', _⟩ := rem_law (A := A) (B := B) (T := fun q => IntKind.i32.wrap (base + offX D q)) (j := j) (p := pri) (o := o) (k := k) hl (by rw [hAB]; exact hQ) (by rw [hAB]; omega) ho
      have hj50 : j < 50 := hQ.lt j (by rw [← hAB]; simp)
      have hT : trmR k m (spc j) pri = (k', 0, m') := by unfold trmR; rw [hpb, hRem]; rfl
      have hok' : k'.ok := by
        rw [hk']; split
        · refine Core.setT_ok hok _ ?_
          cases B with
          | nil => exact ⟨by decide, by decide⟩
          | cons b t => exact spc_I32 (hQ.lt b (by rw [← hAB]; simp))
        · exact hok
      have hat : (qV (Q.map spc))[r]? = some (.int .i32 (spc j)) := qV_at (by rw [List.getElem?_map, List.getElem?_eq_getElem hrl, hj]; rfl)
      show WpC _ _ _ _ _
      refine c_merge [(3, .t (.s (.int .i64 pri)), none), (8, .t (.s (.bool false)), none), (9, .t (.s (.loc 1 0)), none), (13, .t (.s (.sl 3 0 (Q.map spc).length c2)), none), (21, .t (.s (.int .i64 (r : Int))), none), (22, .t (.s (.loc 4 0)), none), (23, .t (.s (.int .i64 0)), none)]
        [.view (qV D), .blk 33 [.sl 2 0 m'.l.length m'.l.length], mOwn m'.l, .view (qV (Q.map spc)), .blk 26 k'.sv] (fun key => ?ways) ?cont
      case ways =>
        refine c_waysH tt_ok ctSo_ok k_l32_TimerSorted [3, 5] rfl rfl rfl ?_
        repeat' (first | exact trivial | exact ⟨rfl, rfl, trivial⟩ | (refine Exists.intro r ?_; refine And.intro ⟨rfl, by rw [List.length_map]; exact hrl, by rw [qV_len, List.length_map, Nat.zero_add, Nat.zero_add, Nat.mul_one]; omega⟩ ?_) | (refine Exists.intro (SV.int .i32 (spc j)) ?_; refine And.intro rfl (And.intro (by rw [show 0 + r * (0 + 1) = r by omega]; exact hat) ?_)) | (refine Exists.intro (m, k', 0, m') ?_; refine And.intro ⟨rfl, rfl, rfl, rfl, ⟨hok, by omega, by omega⟩, hT⟩ ?_) | (refine And.intro ?_ ?_) | (refine fun _ => ?_))
        all_goals
          refine WpE.into ?_ key
          first
            | exact into [0, 1, 2, 5, 7] ⟨⟨_, rfl, rfl⟩, ⟨_, rfl, rfl⟩, ⟨_, rfl, rfl⟩, ⟨_, rfl, rfl⟩, ⟨_, rfl, rfl⟩, ⟨_, rfl, rfl⟩, ⟨_, rfl, rfl⟩, trivial⟩ ⟨_, rfl, rfl⟩ rfl rfl rfl rfl
            | exact into [0, 1, 2, 5, 8] ⟨⟨_, rfl, rfl⟩, ⟨_, rfl, rfl⟩, ⟨_, rfl, rfl⟩, ⟨_, rfl, rfl⟩, ⟨_, rfl, rfl⟩, ⟨_, rfl, rfl⟩, ⟨_, rfl, rfl⟩, trivial⟩ ⟨_, rfl, rfl⟩ rfl rfl rfl rfl
      have hlm : (Q.map spc).length = Q.length := List.length_map ..
      have hqm := qV_len (Q.map spc)
      refine e_run tt_ok ctSo_ok k_l32_TimerSorted [100125, 100148, 100151, 100156, 100160] 90 (by kernel_rfl) ?_
      refine ⟨0, r, ⟨_, _, rfl, rfl, rfl, rfl⟩, ⟨by omega, by omega⟩, ?_⟩
      refine ⟨⟨by simp [seg]; omega, one_seg (one_seg (qV_one _)), by simp only [maxLen]; omega, by omega⟩, fun c3 h3 h3' => ?_⟩
      refine ⟨.t (.s (.int .i64 ((r + 1 : Nat) : Int))), fun β => told_il (wrapSucc (i := r) (by omega)).symm, rfl, ?_⟩
      refine ⟨r + 1, (Q.map spc).length, ⟨_, _, rfl, rfl, rfl, rfl⟩, ⟨by omega, by omega⟩, ?_⟩
      refine ⟨⟨rfl, ?_, ?_, ?_, by simp only [maxLen]; omega, by omega⟩, fun c4 h4 h4' => ?_⟩
      · simp [seg]; omega
      · simp [seg]; omega
      · exact one_seg (one_seg (qV_one _))
      have hq2 := tqe_law (p := pri) hl' hQ' (by have := congrArg List.length hAB; simp at this; simp; omega) hpb ho
      refine ⟨(m', (A ++ B).map spc, 0), ⟨rfl, rfl, rfl, rfl, ⟨hok', by omega, by omega⟩, hq2⟩, fun cq2 hcq2 => ?_⟩
      have hjn : j ∉ A ++ B := by
        have hnd := hQ.nd
        rw [← hAB, List.nodup_append] at hnd
        intro hm
        rcases List.mem_append.1 hm with hm | hm
        · exact hnd.2.2 j hm j (by simp) rfl
        · exact (List.nodup_cons.1 hnd.2.1).1 hm
      have hN : trmR k' m' (spc j) pri = (.zero, 6, m') := by
        unfold trmR
        rw [hpb, rem_none hl' hQ' hjn (by have := congrArg List.length hAB; simp at this; simp; omega) ho]; rfl
      have hrest : seg (seg (qV (Q.map spc)) (0 + 0 * 1) ((r - 0) * 1)) 0 ((r - 0) * 1) ++ seg (seg (qV (Q.map spc)) (0 + (r + 1) * 1) (((Q.map spc).length - (r + 1)) * 1)) 0 (((Q.map spc).length - (r + 1)) * 1) = qV ((A ++ B).map spc) := by
        simp only [Nat.mul_one, Nat.add_zero, Nat.zero_add, Nat.sub_zero, seg_qV, List.drop_zero, List.take_take, Nat.min_self]
        rw [← hA, ← hB, List.map_append, List.map_take, List.map_drop, qV_app, List.take_of_length_le (l := List.drop (r + 1) (Q.map spc)) (by simp)]
      have hABl : A.length + (B.length + 1) = Q.length := by have := congrArg List.length hAB; simpa using this
      have hll : r - 0 + ((Q.map spc).length - (r + 1)) = ((A ++ B).map spc).length := by rw [List.length_map, List.length_map, List.length_append]; omega
      have hle : ((A ++ B).map spc).length ≤ 1000000000 := by rw [← hll]; omega
      show WpC _ _ _ _ _
      refine c_waysH tt_ok ctSo_ok k_l32_TimerSorted [3, 4] rfl rfl rfl ?_
      repeat' (first | exact trivial | exact ⟨rfl, rfl, trivial⟩ | (refine Exists.intro r ?_; refine And.intro ⟨rfl, by rw [List.length_map]; exact hrl, by rw [qV_len, List.length_map, Nat.zero_add, Nat.zero_add, Nat.mul_one]; omega⟩ ?_) | (refine Exists.intro (SV.int .i32 (spc j)) ?_; refine And.intro rfl (And.intro (by rw [show 0 + r * (0 + 1) = r by omega]; exact hat) ?_)) | (refine Exists.intro (m', Core.zero, 6, m') ?_; refine And.intro ⟨rfl, rfl, rfl, rfl, ⟨hok', by omega, by omega⟩, hN⟩ ?_) | (refine And.intro ?_ ?_) | (refine fun _ => ?_))
      all_goals
        refine e_run tt_ok ctSo_ok k_l32_TimerSorted [100148, 100151, 100156, 100160] 90 (by kernel_rfl) ?_
        refine ⟨.t (.s (.bool true)), fun β => told_tr rfl, rfl, ?_⟩
        refine ⟨.t (.s (.bool true)), fun β => told_tr rfl, rfl, ?_⟩
        refine ⟨fun _ => ⟨((A ++ B).map spc, (A ++ B).map spc), ⟨hseg _, rfl, ?_, hll, hle⟩, ?_⟩, fun h => absurd h (by decide)⟩
        · rw [hrest, show r - 0 + ((Q.map spc).length - (r + 1)) = ((A ++ B).map spc).length from hll]; exact hseg _
        refine ⟨.t (.s (.bool true)), fun β => told_tr (by simp), rfl, ?_⟩
        refine ⟨.t (.s (.bool true)), fun β => told_tr rfl, rfl, ?_⟩
        refine ⟨fun _ => ?_, fun h => absurd h (by decide)⟩
        exact fin_k tt_ok (rs := rs_l32_TimerSorted) rfl rfl hK [0] rfl rfl rfl rfl rfl rfl
end Go.Proofs
