/- The reference: Tick. -/
import Derived.Test.YtcjaggapamngmaaWalkI

namespace Go.Proofs
open Go Go.Sx
set_option maxRecDepth 10000
theorem tikQ_no {f : Nat} {k : Core} {m : Ram} {p : Int} (h : dueB k m (p == 1) = false) : tikQ (f + 1) k m p = some (k, m) := by
  unfold dueB at h
  rw [tikQ]
  cases hn : (k.tm (p == 1) == NP)
  · rw [hn, cond_false] at h
    cases hv : validB m (k.tm (p == 1))
    · rw [hv] at h; cases h
    · rw [hv] at h
      cases ha : aftB (m.word (IntKind.i32.wrap (k.tm (p == 1) + -20))) (k.ck (p == 1))
      · rw [ha] at h; cases h
      · rfl
  · rfl
theorem tikQ_yes {f : Nat} {k : Core} {m : Ram} {p : Int} (h : dueB k m (p == 1) = true) : tikQ (f + 1) k m p = bif f == 0 then none else (wakE (wkeR k m p)).bind fun r => tikQ f r.1 r.2 p := by
  unfold dueB at h
  rw [tikQ]
  cases hn : (k.tm (p == 1) == NP)
  · rw [hn, cond_false] at h
    cases hv : validB m (k.tm (p == 1))
    · have : wkeR k m p = (.zero, 4, m) := by unfold wkeR; rw [hv]; rfl
      rw [this]
      show none = bif f == 0 then none else none
      cases (f == 0) <;> rfl
    · rw [hv] at h
      cases ha : aftB (m.word (IntKind.i32.wrap (k.tm (p == 1) + -20))) (k.ck (p == 1))
      · rw [wake_rel hv]; rfl
      · rw [ha] at h; cases h
  · rw [hn] at h; cases h
theorem tikF_step {q : Nat} (hq : q < 2) (k : Core) (m : Ram) : tikF q k m = (tikQ queN k m q).bind fun r => tikF (q + 1) r.1 r.2 := by
  match q, hq with
  | 0, _ => rfl
  | 1, _ =>
    show tikQ queN k m 1 = (tikQ queN k m 1).bind fun r => some (r.1, r.2)
    cases tikQ queN k m 1 <;> rfl
theorem adv_one {k : Core} (h : k.ok) (hb : (bif decide (k.ticks ≥ 0) then decide (k.ticks < 63) else false) = true) : k.adv = { k with k0 := IntKind.i32.wrap (k.k0 + 1), ticks := IntKind.i32.wrap (k.ticks + 1) } := by
  have ht := h.ticks
  unfold I32 at ht
  have h1 : k.ticks ≥ 0 ∧ k.ticks < 63 := by
    by_cases h0 : k.ticks ≥ 0
    · rw [decide_eq_true h0] at hb; exact ⟨h0, of_decide_eq_true hb⟩
    · rw [decide_eq_false h0] at hb; cases hb
  unfold Core.adv
  rw [decide_eq_false (show ¬ IntKind.i32.wrap (k.ticks + 1) ≤ 0 by rw [IntKind.wrap_i32]; omega), decide_eq_false (show ¬ IntKind.i32.wrap (k.ticks + 1) > 63 by rw [IntKind.wrap_i32]; omega)]
  rfl
theorem adv_two {k : Core} (h : k.ok) (hb : (bif decide (k.ticks ≥ 0) then decide (k.ticks < 63) else false) = false) : k.adv = { k with k0 := IntKind.i32.wrap (k.k0 + 1), ticks := 0, k1 := IntKind.i32.wrap (k.k1 + 1) } := by
  have ht := h.ticks
  unfold I32 at ht
  have h1 : IntKind.i32.wrap (k.ticks + 1) ≤ 0 ∨ IntKind.i32.wrap (k.ticks + 1) > 63 := by
    rw [IntKind.wrap_i32]
    by_cases h0 : k.ticks ≥ 0
    · rw [decide_eq_true h0] at hb; have := of_decide_eq_false hb; omega
    · omega
  unfold Core.adv
  by_cases h2 : IntKind.i32.wrap (k.ticks + 1) ≤ 0
  · rw [decide_eq_true h2]; rfl
  · rw [decide_eq_false h2, decide_eq_true (by omega)]; rfl
noncomputable abbrev ctRTi : CT := [(f_r32_due, eRdue), (f_r32_wake, eRwake)]
theorem ctRTi_ok : CTok Try.prog ctRTi := ⟨con_ok cal_r32_due _, con_ok cal_r32_wake _, trivial⟩
set_option maxHeartbeats 4000000 in
theorem RTick_c (k : Core) (m : Ram) (cap : Nat) (k' : Core) (e' : Int) (m' : Ram) (hok : k.ok) (hc : m.l.length ≤ cap) (hx : ttkR k m = (k', e', m')) : Con Try.prog f_r32_Tick [.agg k.sv, .s (.sl 0 0 m.l.length cap)] [.view (bytesI m.l)] (RES m m' k' e') := by
  intro K hK
  unfold ttkR at hx
  refine enter fn_r32_Tick rfl nt_r32_Tick rfl rfl (fun φ w0 β0 F => ?_)
  refine c_run tt_ok ctRTi_ok k_r32_Tick [100030] 60 (by kernel_rfl) ?_
  refine ⟨fun h => ?_, fun h => ?_⟩
  · rw [show k.halted = true from h, cond_true] at hx
    cases hx
    refine WpE.into (aliasSlot 5 0 0 m.l.length cap rfl rfl) ?_
    refine fin_k tt_ok (rs := rs_r32_Tick) rfl rfl (hK cap hc) [0, 3] rfl ?_ rfl rfl rfl rfl
    rw [seg_all]; rfl
  rw [show k.halted = false from h, cond_false] at hx
  obtain ⟨R, hR⟩ : ∃ R, tikF 0 k.adv m = R := ⟨_, rfl⟩
  rw [hR] at hx
  have hok1 := adv_ok hok
  rcases hA : (bif decide (k.ticks ≥ 0) then decide (k.ticks < 63) else false) with _ | _
  · rw [adv_two hok hA] at hR hok1
    refine ⟨.t (.s (.bool false)), fun β => told_bl hA, rfl, ?_⟩
    refine ⟨fun h => absurd h (by decide), fun _ => ?_⟩
    show WpC _ _ _ _ _
    refine WpC.into (aliasSlot 7 0 0 m.l.length cap rfl rfl) ?_
    refine c_loop (α := Nat × Core × Ram × Nat) (fun x => x.1 ≤ 2 ∧ x.2.1.ok ∧ x.2.2.1.l.length ≤ x.2.2.2 ∧ tikF x.1 x.2.1 x.2.2.1 = R) (fun x => 2 - x.1)
      (fun x => [(1, .t (.s (.sl 0 0 m.l.length cap)), none), (2, .t (.s (.loc 1 0)), none), (4, .t (.s (.loc 2 0)), none), (7, .t (.s (.sl 3 0 x.2.2.1.l.length x.2.2.2)), none), (8, .t (.s (.int .i64 (x.1 : Int))), none)])
      (fun x => [.view (bytesI m.l), .blk 26 x.2.1.sv, .blk 26 Core.zero.sv, .view (bytesI x.2.2.1.l)]) (0, { k with k0 := IntKind.i32.wrap (k.k0 + 1), ticks := 0, k1 := IntKind.i32.wrap (k.k1 + 1) }, m, cap) ⟨Nat.zero_le _, hok1, hc, hR⟩ ?_ ?_
    · refine into [0, 1, 2, 3] ⟨⟨_, rfl, rfl⟩, ⟨_, rfl, rfl⟩, ⟨_, rfl, rfl⟩, ⟨_, rfl, rfl⟩, ⟨_, rfl, rfl⟩, trivial⟩ ⟨_, rfl, ?_⟩ rfl rfl rfl rfl
      dsimp only
      rw [seg_all]; rfl
    rintro ⟨q, k, mm, c⟩ ⟨hq, hok, hcm, hRq⟩
    simp only at hq hok hcm hRq
    dsimp only
    refine c_run' tt_ok ctRTi_ok k_r32_Tick [] 60 (by kernel_rfl) (by kernel_rfl) ?_
    refine ⟨fun h1 => ?_, fun h1 => ?_⟩
    · have hq2 : q < 2 := by have := of_decide_eq_true h1; omega
      have hp : (q : Int) = 0 ∨ (q : Int) = 1 := by omega
      rw [tikF_step hq2] at hRq
      show WpC _ _ _ _ _
      refine c_loop (α := Nat × Core × Ram × Nat) (fun x => (1 ≤ x.1 ∧ x.1 ≤ 1025) ∧ x.2.1.ok ∧ x.2.2.1.l.length ≤ x.2.2.2 ∧ ((tikQ x.1 x.2.1 x.2.2.1 q).bind fun r => tikF (q + 1) r.1 r.2) = R) (fun x => x.1)
        (fun x => [(1, .t (.s (.sl 0 0 m.l.length cap)), none), (2, .t (.s (.loc 1 0)), none), (4, .t (.s (.loc 2 0)), none), (7, .t (.s (.sl 3 0 x.2.2.1.l.length x.2.2.2)), none), (8, .t (.s (.int .i64 (q : Int))), none), (9, .t (.s (.int .i64 ((1025 - x.1 : Nat) : Int))), none)])
        (fun x => [.view (bytesI m.l), .blk 26 x.2.1.sv, .blk 26 Core.zero.sv, .view (bytesI x.2.2.1.l)]) (queN, k, mm, c) ⟨by show 1 ≤ queN ∧ queN ≤ 1025; rw [queN_eq]; decide, hok, hcm, hRq⟩ ?_ ?_
      · exact into [0, 1, 2, 3] ⟨⟨_, rfl, rfl⟩, ⟨_, rfl, rfl⟩, ⟨_, rfl, rfl⟩, ⟨_, rfl, rfl⟩, ⟨_, rfl, rfl⟩, ⟨_, rfl, by rw [queN_eq]; rfl⟩, trivial⟩ ⟨_, rfl, rfl⟩ rfl rfl rfl rfl
      rintro ⟨f, k, mm, c⟩ ⟨⟨hf1, hf2⟩, hok, hcm, hRf⟩
      simp only at hf1 hf2 hok hcm hRf
      obtain ⟨f, rfl⟩ : ∃ f', f = f' + 1 := ⟨f - 1, by omega⟩
      dsimp only
      refine c_run' tt_ok ctRTi_ok k_r32_Tick [100066] 60 (by kernel_rfl) (by kernel_rfl) ?_
      refine ⟨mm, ⟨rfl, rfl, hok, hp⟩, ?_⟩
      refine ⟨fun h2 => ?_, fun h2 => ?_⟩
      · rw [tikQ_yes h2] at hRf
        obtain ⟨⟨k2, e2, m2⟩, hw⟩ : ∃ r, wkeR k mm q = r := ⟨_, rfl⟩
        rw [hw] at hRf
        refine ⟨(mm, k2, e2, m2), ⟨rfl, rfl, ⟨hok, hp, hcm⟩, hw⟩, fun d hd => ?_⟩
        have hcnt : (((1025 - (f + 1) : Nat) : Int) == 1024) = (f == 0) := by rw [Bool.eq_iff_iff]; simp; omega
        refine ⟨.t (.s (.bool (bif e2 != 0 then true else f == 0))), fun β => told_bl (by rw [← hcnt]), rfl, ?_⟩
        refine ⟨fun h3 => ?_, fun h3 => ?_⟩
        · have hRn : R = none := by
            rw [← hRf]
            cases hf0 : (f == 0)
            · rw [hf0] at h3
              have he : (e2 != 0) = true := by cases hh : (e2 != 0) <;> rw [hh] at h3 <;> first | rfl | cases h3
              rw [cond_false]
              show ((bif e2 == 0 then some (k2, m2) else none).bind _).bind _ = none
              rw [show (e2 == 0) = false by simpa using he]; rfl
            · rfl
          rw [hRn] at hx
          have hx' : (Core.zero, (4 : Int), m) = (k', e', m') := hx
          cases hx'
          refine WpE.into (aliasSlot 5 0 0 m.l.length cap rfl rfl) ?_
          refine fin_k tt_ok (rs := rs_r32_Tick) rfl rfl (hK cap hc) [0, 6] rfl ?_ rfl rfl rfl rfl
          rw [seg_all]; rfl
        · have he : e2 = 0 := by
            cases hh : (e2 != 0) <;> rw [hh] at h3
            · simpa using hh
            · cases h3
          have hf0 : (f == 0) = false := by rw [he] at h3; exact h3
          rw [hf0, cond_false, he] at hRf
          have hw' : wakE (wkeR k mm q) = some (k2, m2) := by rw [hw, he]; rfl
          have hv : validB mm (k.tm ((q : Int) == 1)) = true := by
            cases hv : validB mm (k.tm ((q : Int) == 1))
            · have h4 : wkeR k mm q = (.zero, 4, mm) := by unfold wkeR; rw [hv]; rfl
              rw [h4] at hw
              have := congrArg (fun r => r.2.1) hw
              dsimp only at this
              omega
            · rfl
          have hok2 : k2.ok := wakR_ok (p := (q : Int)) (m := mm) hok (by rw [wake_rel hv]; exact hw')
          have hfp : f ≠ 0 := by simpa using hf0
          refine e_again (f, k2, m2, d) ⟨⟨by dsimp only; omega, by dsimp only; omega⟩, hok2, hd, hRf⟩ (Nat.lt_succ_self f) (into [0, 1, 2, 4] ⟨⟨_, rfl, rfl⟩, ⟨_, rfl, rfl⟩, ⟨_, rfl, rfl⟩, ⟨_, rfl, rfl⟩, ⟨_, rfl, rfl⟩, ⟨_, rfl, ?_⟩, trivial⟩ ⟨_, rfl, rfl⟩ rfl rfl rfl rfl)
          show FV.t (.s (.int .i64 (IntKind.i64.wrap (((1025 - (f + 1) : Nat) : Int) + 1)))) = .t (.s (.int .i64 ((1025 - f : Nat) : Int)))
          rw [wrap64 (by omega) (by omega), show ((1025 - (f + 1) : Nat) : Int) + 1 = ((1025 - f : Nat) : Int) by omega]
      · rw [tikQ_no h2] at hRf
        exact e_again (q + 1, k, mm, c) ⟨hq2, hok, hcm, hRf⟩ (by dsimp only; omega) (into [0, 1, 2, 3] ⟨⟨_, rfl, rfl⟩, ⟨_, rfl, rfl⟩, ⟨_, rfl, rfl⟩, ⟨_, rfl, rfl⟩, ⟨_, rfl, fvi (wrapSucc (by omega))⟩, trivial⟩ ⟨_, rfl, rfl⟩ rfl rfl rfl rfl)
    · have hq2 : q = 2 := by have := of_decide_eq_false h1; omega
      subst hq2
      have hRs : some (k, mm) = R := hRq
      rw [← hRs] at hx
      have hx' : (k, (0 : Int), mm) = (k', e', m') := hx
      cases hx'
      exact fin_k tt_ok (rs := rs_r32_Tick) rfl rfl (hK c hcm) [0, 3] rfl rfl rfl rfl rfl rfl
  · rw [adv_one hok hA] at hR hok1
    refine ⟨.t (.s (.bool true)), fun β => told_tr hA, rfl, ?_⟩
    refine ⟨fun _ => ?_, fun h => absurd h (by decide)⟩
    show WpC _ _ _ _ _
    refine WpC.into (aliasSlot 7 0 0 m.l.length cap rfl rfl) ?_
    refine c_loop (α := Nat × Core × Ram × Nat) (fun x => x.1 ≤ 2 ∧ x.2.1.ok ∧ x.2.2.1.l.length ≤ x.2.2.2 ∧ tikF x.1 x.2.1 x.2.2.1 = R) (fun x => 2 - x.1)
      (fun x => [(1, .t (.s (.sl 0 0 m.l.length cap)), none), (2, .t (.s (.loc 1 0)), none), (4, .t (.s (.loc 2 0)), none), (7, .t (.s (.sl 3 0 x.2.2.1.l.length x.2.2.2)), none), (8, .t (.s (.int .i64 (x.1 : Int))), none)])
      (fun x => [.view (bytesI m.l), .blk 26 x.2.1.sv, .blk 26 Core.zero.sv, .view (bytesI x.2.2.1.l)]) (0, { k with k0 := IntKind.i32.wrap (k.k0 + 1), ticks := IntKind.i32.wrap (k.ticks + 1) }, m, cap) ⟨Nat.zero_le _, hok1, hc, hR⟩ ?_ ?_
    · refine into [0, 1, 2, 3] ⟨⟨_, rfl, rfl⟩, ⟨_, rfl, rfl⟩, ⟨_, rfl, rfl⟩, ⟨_, rfl, rfl⟩, ⟨_, rfl, rfl⟩, trivial⟩ ⟨_, rfl, ?_⟩ rfl rfl rfl rfl
      dsimp only
      rw [seg_all]; rfl
    rintro ⟨q, k, mm, c⟩ ⟨hq, hok, hcm, hRq⟩
    simp only at hq hok hcm hRq
    dsimp only
    refine c_run' tt_ok ctRTi_ok k_r32_Tick [] 60 (by kernel_rfl) (by kernel_rfl) ?_
    refine ⟨fun h1 => ?_, fun h1 => ?_⟩
    · have hq2 : q < 2 := by have := of_decide_eq_true h1; omega
      have hp : (q : Int) = 0 ∨ (q : Int) = 1 := by omega
      rw [tikF_step hq2] at hRq
      show WpC _ _ _ _ _
      refine c_loop (α := Nat × Core × Ram × Nat) (fun x => (1 ≤ x.1 ∧ x.1 ≤ 1025) ∧ x.2.1.ok ∧ x.2.2.1.l.length ≤ x.2.2.2 ∧ ((tikQ x.1 x.2.1 x.2.2.1 q).bind fun r => tikF (q + 1) r.1 r.2) = R) (fun x => x.1)
        (fun x => [(1, .t (.s (.sl 0 0 m.l.length cap)), none), (2, .t (.s (.loc 1 0)), none), (4, .t (.s (.loc 2 0)), none), (7, .t (.s (.sl 3 0 x.2.2.1.l.length x.2.2.2)), none), (8, .t (.s (.int .i64 (q : Int))), none), (9, .t (.s (.int .i64 ((1025 - x.1 : Nat) : Int))), none)])
        (fun x => [.view (bytesI m.l), .blk 26 x.2.1.sv, .blk 26 Core.zero.sv, .view (bytesI x.2.2.1.l)]) (queN, k, mm, c) ⟨by show 1 ≤ queN ∧ queN ≤ 1025; rw [queN_eq]; decide, hok, hcm, hRq⟩ ?_ ?_
      · exact into [0, 1, 2, 3] ⟨⟨_, rfl, rfl⟩, ⟨_, rfl, rfl⟩, ⟨_, rfl, rfl⟩, ⟨_, rfl, rfl⟩, ⟨_, rfl, rfl⟩, ⟨_, rfl, by rw [queN_eq]; rfl⟩, trivial⟩ ⟨_, rfl, rfl⟩ rfl rfl rfl rfl
      rintro ⟨f, k, mm, c⟩ ⟨⟨hf1, hf2⟩, hok, hcm, hRf⟩
      simp only at hf1 hf2 hok hcm hRf
      obtain ⟨f, rfl⟩ : ∃ f', f = f' + 1 := ⟨f - 1, by omega⟩
      dsimp only
      refine c_run' tt_ok ctRTi_ok k_r32_Tick [100066] 60 (by kernel_rfl) (by kernel_rfl) ?_
      refine ⟨mm, ⟨rfl, rfl, hok, hp⟩, ?_⟩
      refine ⟨fun h2 => ?_, fun h2 => ?_⟩
      · rw [tikQ_yes h2] at hRf
        obtain ⟨⟨k2, e2, m2⟩, hw⟩ : ∃ r, wkeR k mm q = r := ⟨_, rfl⟩
        rw [hw] at hRf
        refine ⟨(mm, k2, e2, m2), ⟨rfl, rfl, ⟨hok, hp, hcm⟩, hw⟩, fun d hd => ?_⟩
        have hcnt : (((1025 - (f + 1) : Nat) : Int) == 1024) = (f == 0) := by rw [Bool.eq_iff_iff]; simp; omega
        refine ⟨.t (.s (.bool (bif e2 != 0 then true else f == 0))), fun β => told_bl (by rw [← hcnt]), rfl, ?_⟩
        refine ⟨fun h3 => ?_, fun h3 => ?_⟩
        · have hRn : R = none := by
            rw [← hRf]
            cases hf0 : (f == 0)
            · rw [hf0] at h3
              have he : (e2 != 0) = true := by cases hh : (e2 != 0) <;> rw [hh] at h3 <;> first | rfl | cases h3
              rw [cond_false]
              show ((bif e2 == 0 then some (k2, m2) else none).bind _).bind _ = none
              rw [show (e2 == 0) = false by simpa using he]; rfl
            · rfl
          rw [hRn] at hx
          have hx' : (Core.zero, (4 : Int), m) = (k', e', m') := hx
          cases hx'
          refine WpE.into (aliasSlot 5 0 0 m.l.length cap rfl rfl) ?_
          refine fin_k tt_ok (rs := rs_r32_Tick) rfl rfl (hK cap hc) [0, 6] rfl ?_ rfl rfl rfl rfl
          rw [seg_all]; rfl
        · have he : e2 = 0 := by
            cases hh : (e2 != 0) <;> rw [hh] at h3
            · simpa using hh
            · cases h3
          have hf0 : (f == 0) = false := by rw [he] at h3; exact h3
          rw [hf0, cond_false, he] at hRf
          have hw' : wakE (wkeR k mm q) = some (k2, m2) := by rw [hw, he]; rfl
          have hv : validB mm (k.tm ((q : Int) == 1)) = true := by
            cases hv : validB mm (k.tm ((q : Int) == 1))
            · have h4 : wkeR k mm q = (.zero, 4, mm) := by unfold wkeR; rw [hv]; rfl
              rw [h4] at hw
              have := congrArg (fun r => r.2.1) hw
              dsimp only at this
              omega
            · rfl
          have hok2 : k2.ok := wakR_ok (p := (q : Int)) (m := mm) hok (by rw [wake_rel hv]; exact hw')
          have hfp : f ≠ 0 := by simpa using hf0
          refine e_again (f, k2, m2, d) ⟨⟨by dsimp only; omega, by dsimp only; omega⟩, hok2, hd, hRf⟩ (Nat.lt_succ_self f) (into [0, 1, 2, 4] ⟨⟨_, rfl, rfl⟩, ⟨_, rfl, rfl⟩, ⟨_, rfl, rfl⟩, ⟨_, rfl, rfl⟩, ⟨_, rfl, rfl⟩, ⟨_, rfl, ?_⟩, trivial⟩ ⟨_, rfl, rfl⟩ rfl rfl rfl rfl)
          show FV.t (.s (.int .i64 (IntKind.i64.wrap (((1025 - (f + 1) : Nat) : Int) + 1)))) = .t (.s (.int .i64 ((1025 - f : Nat) : Int)))
          rw [wrap64 (by omega) (by omega), show ((1025 - (f + 1) : Nat) : Int) + 1 = ((1025 - f : Nat) : Int) by omega]
      · rw [tikQ_no h2] at hRf
        exact e_again (q + 1, k, mm, c) ⟨hq2, hok, hcm, hRf⟩ (by dsimp only; omega) (into [0, 1, 2, 3] ⟨⟨_, rfl, rfl⟩, ⟨_, rfl, rfl⟩, ⟨_, rfl, rfl⟩, ⟨_, rfl, rfl⟩, ⟨_, rfl, fvi (wrapSucc (by omega))⟩, trivial⟩ ⟨_, rfl, rfl⟩ rfl rfl rfl rfl)
    · have hq2 : q = 2 := by have := of_decide_eq_false h1; omega
      subst hq2
      have hRs : some (k, mm) = R := hRq
      rw [← hRs] at hx
      have hx' : (k, (0 : Int), mm) = (k', e', m') := hx
      cases hx'
      exact fin_k tt_ok (rs := rs_r32_Tick) rfl rfl (hK c hcm) [0, 3] rfl rfl rfl rfl rfl rfl
noncomputable abbrev eRTick : Ent := .st (conS (P := Try.prog) (f := f_r32_Tick) fun cargs σ0 => match cargs, σ0 with
  | [.agg cs, .s (.sl 0 0 n cap)], [.view xs] => withCore cs fun k hk => some ⟨.ex (Ram × Core × Int × Ram) fun q => .ask (n = q.1.l.length ∧ xs = bytesI q.1.l ∧ (k.ok ∧ q.1.l.length ≤ cap) ∧ ttkR k q.1 = q.2) (RES q.1 q.2.2.2 q.2.1 q.2.2.1), fun K h => by
      obtain ⟨⟨m, k', e', m'⟩, ⟨e1, e2, ⟨h1, h2⟩, h4⟩, h⟩ := h
      dsimp only at e1 e2 h2 h4 h
      subst e1; subst e2; subst hk
      exact RTick_c k m cap k' e' m' h1 h2 h4 K h⟩
  | _, _ => none)
end Go.Proofs

namespace Go.Proofs
open Go Go.Sx
set_option maxRecDepth 10000
/-- sleep returns what the program's leaves, if the process runs and is valid. -/
theorem sle_rel {k : Core} {m : Ram} {timed : Bool} {at' : Int} (hb : k.busy = true) (hv : validB m k.wptr = true) (hp : priB k.pri = true) :
    ∀ (m1 : Ram), m.set (IntKind.i32.wrap (k.wptr + -12)) (-2147483646) = m1 → (timed = false → waR k m1 = tryR m (sleR k m timed at')) ∧
      (timed = true → ∀ k2 e2 m2, tinR k m1 k.wptr at' k.pri = (k2, e2, m2) → (e2 ≠ 0 → e2 = 4 ∧ tryR m (sleR k m timed at') = (.zero, 4, m)) ∧ (e2 = 0 → waR k2 m2 = tryR m (sleR k m timed at'))) := by
  intro m1 hm1
  have hl1 : m1.l.length = m.l.length := by rw [← hm1, set_len]
  have hw0 : ∀ (kk : Core) (mm : Ram), kk.busy = true → kk.wptr = k.wptr → mm.l.length = m.l.length → waR kk mm = (waitK kk mm, 0, waitM kk mm) := fun kk mm h1 h2 h3 => by
    have hE : waitE kk mm = 0 := by unfold waitE; rw [h1, h2, validB_len h3, hv]; rfl
    unfold waR waitK waitM
    rw [hE, h1, h2, validB_len h3, hv]; rfl
  refine ⟨fun ht => ?_, fun ht k2 e2 m2 hT => ?_⟩
  · subst ht
    unfold sleR
    rw [cond_false, hm1, sleW, hw0 k m1 hb rfl hl1]; rfl
  · subst ht
    unfold tinR at hT
    rw [hp, Bool.not_true, cond_false] at hT
    unfold sleR
    rw [cond_true, hm1]
    rcases hI : insR k m1 k.wptr at' k.pri with _ | ⟨k3, m3⟩
    · rw [hI] at hT
      have hT' : (Core.zero, (4 : Int), m1) = (k2, e2, m2) := hT
      cases hT'
      exact ⟨fun _ => ⟨rfl, rfl⟩, fun h => absurd h (by decide)⟩
    · rw [hI] at hT
      have hT' : (k3, (0 : Int), m3) = (k2, e2, m2) := hT
      cases hT'
      refine ⟨fun h => absurd rfl h, fun _ => ?_⟩
      have hk3 : k2.busy = k.busy ∧ k2.wptr = k.wptr ∧ m2.l.length = m1.l.length := by
        unfold insR at hI
        cases hvv : (!validB m1 k.wptr) <;> rw [hvv] at hI
        · rw [cond_false] at hI
          rcases hl : insL queN m1 at' NP (k.tm (k.pri == 1)) with _ | ⟨bef, nxt⟩ <;> rw [hl] at hI
          · cases hI
          · cases hI
            refine ⟨?_, ?_, ?_⟩
            · unfold lnkK; cases (bef == NP)
              · rfl
              · cases (k.pri == 1) <;> rfl
            · unfold lnkK; cases (bef == NP)
              · rfl
              · cases (k.pri == 1) <;> rfl
            · unfold lnkM insA; cases (bef == NP)
              · rw [cond_false, set_len, set_len, set_len]
              · rw [cond_true, set_len, set_len]
        · cases hI
      rw [sleW, hw0 k2 m2 (hk3.1.trans hb) hk3.2.1 (hk3.2.2.trans hl1)]; rfl
theorem tinR_ok {k k' : Core} {m m' : Ram} {w at' p e' : Int} (h : k.ok) (hw : I32 w) (hT : tinR k m w at' p = (k', e', m')) : k'.ok := by
  unfold tinR at hT
  cases hp : (!priB p) <;> rw [hp] at hT
  · rw [cond_false] at hT
    rcases hI : insR k m w at' p with _ | ⟨k3, m3⟩ <;> rw [hI] at hT
    · have hT' : (Core.zero, (4 : Int), m) = (k', e', m') := hT
      cases hT'; exact zero_ok
    · have hT' : (k3, (0 : Int), m3) = (k', e', m') := hT
      cases hT'; exact insR_ok h hw hI
  · cases hT; exact zero_ok
noncomputable abbrev ctRSe : CT := [(f_r29_Set, eRSet), (f_r32_Insert, eRInsert), (f_r29_Wait, eRWait)]
theorem ctRSe_ok : CTok Try.prog ctRSe := ⟨con_ok cal_r29_Set _, con_ok cal_r32_Insert _, con_ok cal_r29_Wait _, trivial⟩
set_option maxHeartbeats 2000000 in
theorem Rsleep_c (k : Core) (m : Ram) (cap : Nat) (timed : Bool) (at' : Int) (k' : Core) (e' : Int) (m' : Ram) (hok : k.ok) (hc : m.l.length ≤ cap) (hb : k.busy = true) (hv : validB m k.wptr = true) (hp : priB k.pri = true) (hx : tryR m (sleR k m timed at') = (k', e', m')) :
    Con Try.prog f_r32_sleep [.agg k.sv, .s (.sl 0 0 m.l.length cap), .s (.bool timed), .s (.int .i32 at')] [.view (bytesI m.l)] (RES m m' k' e') := by
  intro K hK
  obtain ⟨m1, hm1⟩ : ∃ m1, m.set (IntKind.i32.wrap (k.wptr + IntKind.i32.wrap (4 * -3))) (-2147483646) = m1 := ⟨_, rfl⟩
  have hl1 : m1.l.length = m.l.length := by rw [← hm1, set_len]
  obtain ⟨hrA, hrB⟩ := sle_rel (timed := timed) (at' := at') hb hv hp m1 (by rw [← hm1]; rfl)
  rw [hx] at hrA hrB
  refine enter fn_r32_sleep rfl nt_r32_sleep rfl rfl (fun φ w0 β0 F => ?_)
  refine c_run tt_ok ctRSe_ok k_r32_sleep [] 60 (by kernel_rfl) ?_
  refine ⟨m, ⟨rfl, rfl, hc⟩, fun d1 hd1 => ?_⟩
  rw [hm1]
  have hd1' : m1.l.length ≤ d1 := by rw [hl1]; exact hd1
  refine ⟨fun ht => ?_, fun ht => ?_⟩
  · obtain ⟨⟨k2, e2, m2⟩, hT⟩ : ∃ r, tinR k m1 k.wptr at' k.pri = r := ⟨_, rfl⟩
    obtain ⟨hr1, hr2⟩ := hrB ht k2 e2 m2 hT
    refine ⟨(m1, k2, e2, m2), ⟨rfl, rfl, ⟨hok, hok.wptr, hd1'⟩, hT⟩, fun d2 hd2 => ?_⟩
    refine ⟨fun h => ?_, fun h => ?_⟩
    · have he : e2 ≠ 0 := by have h2 : (e2 != 0) = true := h; simpa using h2
      obtain ⟨he4, hz⟩ := hr1 he
      cases hz
      subst he4
      refine WpE.into (aliasSlot 9 0 0 m.l.length cap rfl rfl) ?_
      refine fin_k tt_ok (rs := rs_r32_sleep) rfl rfl (hK cap hc) [0, 6] rfl ?_ rfl rfl rfl rfl
      rw [seg_all]; rfl
    · have he : e2 = 0 := by have h2 : (e2 != 0) = false := h; simpa using h2
      have hok2 : k2.ok := tinR_ok hok hok.wptr hT
      refine ⟨(m2, k', e', m'), ⟨rfl, rfl, hok2.wptr, hd2, hr2 he⟩, fun d3 hd3 => ?_⟩
      exact fin_k tt_ok (rs := rs_r32_sleep) rfl rfl (hK d3 hd3) [0, 6] rfl rfl rfl rfl rfl rfl
  · refine ⟨(m1, k', e', m'), ⟨rfl, rfl, hok.wptr, hd1', hrA ht⟩, fun d3 hd3 => ?_⟩
    exact fin_k tt_ok (rs := rs_r32_sleep) rfl rfl (hK d3 hd3) [0, 4] rfl rfl rfl rfl rfl rfl
noncomputable abbrev eRsleep : Ent := .st (conS (P := Try.prog) (f := f_r32_sleep) fun cargs σ0 => match cargs, σ0 with
  | [.agg cs, .s (.sl 0 0 n cap), .s (.bool timed), .s (.int .i32 at')], [.view xs] => withCore cs fun k hk => some ⟨.ex (Ram × Core × Int × Ram) fun q => .ask (n = q.1.l.length ∧ xs = bytesI q.1.l ∧ (k.ok ∧ q.1.l.length ≤ cap ∧ k.busy = true ∧ validB q.1 k.wptr = true ∧ priB k.pri = true) ∧ tryR q.1 (sleR k q.1 timed at') = q.2) (RES q.1 q.2.2.2 q.2.1 q.2.2.1), fun K h => by
      obtain ⟨⟨m, k', e', m'⟩, ⟨e1, e2, ⟨h1, h2, h3, h4, h5⟩, h6⟩, h⟩ := h
      dsimp only at e1 e2 h2 h4 h6 h
      subst e1; subst e2; subst hk
      exact Rsleep_c k m cap timed at' k' e' m' h1 h2 h3 h4 h5 h6 K h⟩
  | _, _ => none)
end Go.Proofs

namespace Go.Proofs
open Go Go.Sx
set_option maxRecDepth 10000
noncomputable abbrev ctREb : CT := [(f_r29_Set, eRSet), (f_r29_Word, eRWord9), (f_r32_After, .pure spAfter)]
theorem ctREb_ok : CTok Try.prog ctREb := ⟨con_ok cal_r29_Set _, con_ok cal_r29_Word _, ceRAfter, trivial⟩
set_option maxHeartbeats 2000000 in
theorem Renbt_c (k : Core) (m : Ram) (cap : Nat) (hc : m.l.length ≤ cap) : Con Try.prog f_r32_enbt [.agg k.sv, .s (.sl 0 0 m.l.length cap)] [.view (bytesI m.l)] (RES m (enbM k m) { k with b := k.c } 0) := by
  intro K hK
  have e4 : IntKind.i32.wrap (4 * -4) = -16 := by decide
  have e5 : IntKind.i32.wrap (4 * -5) = -20 := by decide
  obtain ⟨m1, hm1⟩ : ∃ m1, m.set (IntKind.i32.wrap (k.wptr + IntKind.i32.wrap (4 * -4))) (-2147483647) = m1 := ⟨_, rfl⟩
  obtain ⟨m2, hm2⟩ : ∃ m2, m1.set (IntKind.i32.wrap (k.wptr + IntKind.i32.wrap (4 * -5))) k.b = m2 := ⟨_, rfl⟩
  obtain ⟨m3, hm3⟩ : ∃ m3, m.set (IntKind.i32.wrap (k.wptr + IntKind.i32.wrap (4 * -5))) k.b = m3 := ⟨_, rfl⟩
  have hl1 : m1.l.length = m.l.length := by rw [← hm1, set_len]
  have hl2 : m2.l.length = m.l.length := by rw [← hm2, set_len, hl1]
  have hl3 : m3.l.length = m.l.length := by rw [← hm3, set_len]
  obtain ⟨st, hst⟩ : ∃ st, m.word (IntKind.i32.wrap (k.wptr + IntKind.i32.wrap (4 * -4))) = st := ⟨_, rfl⟩
  obtain ⟨wt, hwt⟩ : ∃ wt, m.word (IntKind.i32.wrap (k.wptr + IntKind.i32.wrap (4 * -5))) = wt := ⟨_, rfl⟩
  have hE : enbM k m = bif bif k.a != 0 then st == -2147483646 else false then m2 else bif bif bif k.a != 0 then st == -2147483647 else false then aftB wt k.b else false then m3 else m := by
    unfold enbM
    rw [← hm2, ← hm1, ← hm3, ← hst, ← hwt, e4, e5]
    cases h0 : (k.a == 0)
    · rw [show (k.a != 0) = true by simp at h0 ⊢; exact h0]; rfl
    · rw [show (k.a != 0) = false by simp at h0 ⊢; exact h0]; rfl
  rw [hE] at hK
  refine enter fn_r32_enbt rfl nt_r32_enbt rfl rfl (fun φ w0 β0 F => ?_)
  refine c_run tt_ok ctREb_ok k_r32_enbt [] 60 (by kernel_rfl) ?_
  refine ⟨m, ⟨rfl, rfl⟩, ?_⟩
  rw [hst]
  refine ⟨fun h1 => ?_, fun h1 => ?_⟩
  · rw [h1, cond_true] at hK
    refine ⟨m, ⟨rfl, rfl, hc⟩, fun d1 hd1 => ?_⟩
    rw [hm1]
    refine ⟨m1, ⟨rfl, rfl, by rw [hl1]; exact hd1⟩, fun d2 hd2 => ?_⟩
    rw [hm2]
    have hd2' : m2.l.length ≤ d2 := by rw [hl2, ← hl1]; exact hd2
    show WpC _ _ _ _ _
    refine c_waysH tt_ok ctREb_ok k_r32_enbt [1] rfl rfl rfl ?_
    repeat' (first | exact trivial | exact ⟨rfl, trivial⟩ | (refine Exists.intro m2 ?_; refine And.intro ⟨rfl, rfl⟩ ?_) | (refine And.intro ?_ ?_) | (refine fun _ => ?_))
    all_goals first
      | assumption
      | (exfalso; simp_all; done)
      | (refine e_run tt_ok ctREb_ok k_r32_enbt [] 60 (by kernel_rfl) ?_
         refine ⟨fun h => absurd h (by decide), fun _ => ?_⟩
         exact fin_k tt_ok (rs := rs_r32_enbt) rfl rfl (hK d2 hd2') [0, 4] rfl rfl rfl rfl rfl rfl)
  · rw [h1, cond_false] at hK
    show WpC _ _ _ _ _
    refine c_waysH tt_ok ctREb_ok k_r32_enbt [1] rfl rfl rfl ?_
    repeat' (first | exact trivial | exact ⟨rfl, trivial⟩ | (refine Exists.intro m ?_; refine And.intro ⟨rfl, rfl⟩ ?_) | (refine And.intro ?_ ?_) | (refine fun _ => ?_))
    all_goals first
      | assumption
      | (exfalso; simp_all; done)
      | skip
    · refine e_run tt_ok ctREb_ok k_r32_enbt [] 60 (by kernel_rfl) ?_
      refine ⟨fun h4 => ?_, fun h4 => ?_⟩
      · rw [hwt] at h4
        rw [show (bif bif k.a != 0 then st == -2147483647 else false then aftB wt k.b else false) = true from h4, cond_true] at hK
        refine ⟨m, ⟨rfl, rfl, hc⟩, fun d1 hd1 => ?_⟩
        rw [hm3]
        exact fin_k tt_ok (rs := rs_r32_enbt) rfl rfl (hK d1 (by rw [hl3]; exact hd1)) [0, 3] rfl rfl rfl rfl rfl rfl
      · rw [hwt] at h4
        rw [show (bif bif k.a != 0 then st == -2147483647 else false then aftB wt k.b else false) = false from h4, cond_false] at hK
        refine WpE.into (aliasSlot 5 0 0 m.l.length cap rfl rfl) ?_
        refine fin_k tt_ok (rs := rs_r32_enbt) rfl rfl (hK cap hc) [0, 3] rfl ?_ rfl rfl rfl rfl
        rw [seg_all]; rfl
    · rename_i hg
      rw [show (bif bif k.a != 0 then st == -2147483647 else false then aftB wt k.b else false) = false by rw [hg]; rfl, cond_false] at hK
      refine e_run tt_ok ctREb_ok k_r32_enbt [] 60 (by kernel_rfl) ?_
      refine ⟨fun h => absurd h (by decide), fun _ => ?_⟩
      refine WpE.into (aliasSlot 5 0 0 m.l.length cap rfl rfl) ?_
      refine fin_k tt_ok (rs := rs_r32_enbt) rfl rfl (hK cap hc) [0, 3] rfl ?_ rfl rfl rfl rfl
      rw [seg_all]; rfl
noncomputable abbrev eRenbt : Ent := .st (conS (P := Try.prog) (f := f_r32_enbt) fun cargs σ0 => match cargs, σ0 with
  | [.agg cs, .s (.sl 0 0 n cap)], [.view xs] => withCore cs fun k hk => some ⟨.ex (Ram × Core × Int × Ram) fun q => .ask (n = q.1.l.length ∧ xs = bytesI q.1.l ∧ q.1.l.length ≤ cap ∧ ({ k with b := k.c }, (0 : Int), enbM k q.1) = q.2) (RES q.1 q.2.2.2 q.2.1 q.2.2.1), fun K h => by
      obtain ⟨⟨m, k', e', m'⟩, ⟨e1, e2, h1, h2⟩, h⟩ := h
      dsimp only at e1 e2 h1 h2 h
      subst e1; subst e2; subst hk
      cases h2
      exact Renbt_c k m cap h1 K h⟩
  | _, _ => none)
end Go.Proofs

namespace Go.Proofs
open Go Go.Sx
set_option maxRecDepth 10000
noncomputable abbrev ctRTw : CT := [(f_r29_Set, eRSet), (f_r29_Word, eRWord9), (f_r32_After, .pure spAfter), (f_r32_sleep, eRsleep)]
theorem ctRTw_ok : CTok Try.prog ctRTw := ⟨con_ok cal_r29_Set _, con_ok cal_r29_Word _, ceRAfter, con_ok cal_r32_sleep _, trivial⟩
theorem tryR_none {m : Ram} {S : Option (Core × Ram)} {k' : Core} {e' : Int} {m' : Ram} (h : tryR m S = (k', e', m')) (he : e' ≠ 0) : S = none ∧ e' = 4 := by
  rcases S with _ | ⟨k2, m2⟩
  · have h' : (Core.zero, (4 : Int), m) = (k', e', m') := h
    cases h'; exact ⟨rfl, rfl⟩
  · have h' : (k2, (0 : Int), m2) = (k', e', m') := h
    cases h'; exact absurd rfl he
theorem tryR_some {m : Ram} {S : Option (Core × Ram)} {k' : Core} {e' : Int} {m' : Ram} (h : tryR m S = (k', e', m')) (he : e' = 0) : S = some (k', m') := by
  rcases S with _ | ⟨k2, m2⟩
  · have h' : (Core.zero, (4 : Int), m) = (k', e', m') := h
    cases h'; cases he
  · have h' : (k2, (0 : Int), m2) = (k', e', m') := h
    cases h'; rfl
set_option maxHeartbeats 2000000 in
theorem Rtaltwt_c (k : Core) (m : Ram) (cap : Nat) (now : Int) (k' : Core) (e' : Int) (m' : Ram) (hok : k.ok) (hc : m.l.length ≤ cap) (hb : k.busy = true) (hv : validB m k.wptr = true) (hp : priB k.pri = true) (hnow : k.ck (k.pri == 1) = now) (hx : tryR m (talR k m now) = (k', e', m')) :
    Con Try.prog f_r32_taltwt [.agg k.sv, .s (.sl 0 0 m.l.length cap)] [.view (bytesI m.l)] (RES m m' k' e') := by
  intro K hK
  have e0 : IntKind.i32.wrap (4 * 0) = 0 := by decide
  have e3 : IntKind.i32.wrap (4 * -3) = -12 := by decide
  have e4 : IntKind.i32.wrap (4 * -4) = -16 := by decide
  have e5 : IntKind.i32.wrap (4 * -5) = -20 := by decide
  obtain ⟨m0, hm0⟩ : ∃ m0, m.set (IntKind.i32.wrap (k.wptr + IntKind.i32.wrap (4 * 0))) (-1) = m0 := ⟨_, rfl⟩
  obtain ⟨m1, hm1⟩ : ∃ m1, m0.set (IntKind.i32.wrap (k.wptr + IntKind.i32.wrap (4 * -3))) (-2147483645) = m1 := ⟨_, rfl⟩
  obtain ⟨m2, hm2⟩ : ∃ m2, m1.set (IntKind.i32.wrap (k.wptr + IntKind.i32.wrap (4 * -5))) now = m2 := ⟨_, rfl⟩
  have hl0 : m0.l.length = m.l.length := by rw [← hm0, set_len]
  have hl1 : m1.l.length = m.l.length := by rw [← hm1, set_len, hl0]
  have hl2 : m2.l.length = m.l.length := by rw [← hm2, set_len, hl1]
  obtain ⟨st, hst⟩ : ∃ st, m0.word (IntKind.i32.wrap (k.wptr + IntKind.i32.wrap (4 * -4))) = st := ⟨_, rfl⟩
  obtain ⟨wt, hwt⟩ : ∃ wt, m0.word (IntKind.i32.wrap (k.wptr + IntKind.i32.wrap (4 * -5))) = wt := ⟨_, rfl⟩
  obtain ⟨wr, hwr⟩ : ∃ wr, m0.word (IntKind.i32.wrap (k.wptr + IntKind.i32.wrap (4 * -3))) = wr := ⟨_, rfl⟩
  have hE : talR k m now = bif bif wr == -2147483645 then true else bif st == -2147483647 then aftB now wt else false then some (k, m2) else sleR k m0 (st == -2147483647) (IntKind.i32.wrap (wt + 1)) := by
    have hm0' : m.set (IntKind.i32.wrap k.wptr) (-1) = m0 := by rw [← hm0, e0, Int.add_zero]
    unfold talR
    rw [hm0', ← hm2, ← hm1, ← hst, ← hwt, ← hwr, e3, e4, e5]
  rw [hE] at hx
  have hv0 : validB m0 k.wptr = true := by rw [validB_len hl0]; exact hv
  have hp01 : k.pri = 0 ∨ k.pri = 1 := priB_two (by rw [hp]; rfl)
  refine enter fn_r32_taltwt rfl nt_r32_taltwt rfl rfl (fun φ w0 β0 F => ?_)
  refine c_run tt_ok ctRTw_ok k_r32_taltwt [100019] 60 (by kernel_rfl) ?_
  rcases hp01 with hp0 | hp0
  · refine ⟨.t (.s (.int .i64 0)), fun β => told_il hp0.symm, rfl, ?_⟩
    have hn0 : k.k0 = now := by rw [← hnow, hp0]; rfl
    subst hn0
    refine ⟨m, ⟨rfl, rfl, hc⟩, fun d1 hd1 => ?_⟩
    rw [hm0]
    have hd1' : m0.l.length ≤ d1 := by rw [hl0]; exact hd1
    refine ⟨m0, ⟨rfl, rfl⟩, ?_⟩
    rw [hst]
    refine ⟨m0, ⟨rfl, rfl⟩, ?_⟩
    rw [hwt]
    refine ⟨m0, ⟨rfl, rfl⟩, ?_⟩
    rw [hwr]
    refine ⟨fun _ => trivial, ?_⟩
    refine ⟨fun h => ?_, fun h => ?_⟩
    · rw [show (bif wr == -2147483645 then true else bif st == -2147483647 then aftB k.k0 wt else false) = true from h, cond_true] at hx
      have hx' : (k, (0 : Int), m2) = (k', e', m') := hx
      cases hx'
      refine ⟨m0, ⟨rfl, rfl, hd1'⟩, fun d2 hd2 => ?_⟩
      rw [hm1]
      have hd2' : m1.l.length ≤ d2 := by rw [hl1, ← hl0]; exact hd2
      subst hm2
      show WpC _ _ _ _ _
      refine c_waysH tt_ok ctRTw_ok k_r32_taltwt [] rfl rfl rfl ?_
      repeat' (first | exact trivial | exact ⟨rfl, trivial⟩ | (refine Exists.intro m1 ?_; refine And.intro ⟨rfl, rfl, hd2'⟩ ?_) | (refine And.intro ?_ ?_) | (refine fun _ => ?_))
      all_goals
        refine e_run tt_ok ctRTw_ok k_r32_taltwt [] 60 (by kernel_rfl) ?_
        exact fin_k tt_ok (rs := rs_r32_taltwt) rfl rfl (hK _ (by rw [set_len]; assumption)) [0, 5] rfl rfl rfl rfl rfl rfl
    · rw [show (bif wr == -2147483645 then true else bif st == -2147483647 then aftB k.k0 wt else false) = false from h, cond_false] at hx
      obtain ⟨⟨k2, e2, m5⟩, hr⟩ : ∃ r, tryR m0 (sleR k m0 (st == -2147483647) (IntKind.i32.wrap (wt + 1))) = r := ⟨_, rfl⟩
      refine ⟨(m0, k2, e2, m5), ⟨rfl, rfl, ⟨hok, hd1', hb, hv0, hp⟩, hr⟩, fun d3 hd3 => ?_⟩
      refine ⟨fun h4 => ?_, fun h4 => ?_⟩
      · obtain ⟨hS, he⟩ := tryR_none hr (by have h5 : (e2 != 0) = true := h4; simpa using h5)
        rw [hS] at hx
        have hx' : (Core.zero, (4 : Int), m) = (k', e', m') := hx
        cases hx'
        subst he
        refine WpE.into (aliasSlot 5 0 0 m.l.length cap rfl rfl) ?_
        refine fin_k tt_ok (rs := rs_r32_taltwt) rfl rfl (hK cap hc) [0, 6] rfl ?_ rfl rfl rfl rfl
        rw [seg_all]; rfl
      · have he : e2 = 0 := by have h5 : (e2 != 0) = false := h4; simpa using h5
        have hS := tryR_some hr he
        rw [hS] at hx
        have hx' : (k2, (0 : Int), m5) = (k', e', m') := hx
        cases hx'
        exact fin_k tt_ok (rs := rs_r32_taltwt) rfl rfl (hK d3 hd3) [0, 4] rfl rfl rfl rfl rfl rfl
  · refine ⟨.t (.s (.int .i64 1)), fun β => told_il hp0.symm, rfl, ?_⟩
    have hn0 : k.k1 = now := by rw [← hnow, hp0]; rfl
    subst hn0
    refine ⟨m, ⟨rfl, rfl, hc⟩, fun d1 hd1 => ?_⟩
    rw [hm0]
    have hd1' : m0.l.length ≤ d1 := by rw [hl0]; exact hd1
    refine ⟨m0, ⟨rfl, rfl⟩, ?_⟩
    rw [hst]
    refine ⟨m0, ⟨rfl, rfl⟩, ?_⟩
    rw [hwt]
    refine ⟨m0, ⟨rfl, rfl⟩, ?_⟩
    rw [hwr]
    refine ⟨fun _ => trivial, ?_⟩
    refine ⟨fun h => ?_, fun h => ?_⟩
    · rw [show (bif wr == -2147483645 then true else bif st == -2147483647 then aftB k.k1 wt else false) = true from h, cond_true] at hx
      have hx' : (k, (0 : Int), m2) = (k', e', m') := hx
      cases hx'
      refine ⟨m0, ⟨rfl, rfl, hd1'⟩, fun d2 hd2 => ?_⟩
      rw [hm1]
      have hd2' : m1.l.length ≤ d2 := by rw [hl1, ← hl0]; exact hd2
      subst hm2
      show WpC _ _ _ _ _
      refine c_waysH tt_ok ctRTw_ok k_r32_taltwt [] rfl rfl rfl ?_
      repeat' (first | exact trivial | exact ⟨rfl, trivial⟩ | (refine Exists.intro m1 ?_; refine And.intro ⟨rfl, rfl, hd2'⟩ ?_) | (refine And.intro ?_ ?_) | (refine fun _ => ?_))
      all_goals
        refine e_run tt_ok ctRTw_ok k_r32_taltwt [] 60 (by kernel_rfl) ?_
        exact fin_k tt_ok (rs := rs_r32_taltwt) rfl rfl (hK _ (by rw [set_len]; assumption)) [0, 5] rfl rfl rfl rfl rfl rfl
    · rw [show (bif wr == -2147483645 then true else bif st == -2147483647 then aftB k.k1 wt else false) = false from h, cond_false] at hx
      obtain ⟨⟨k2, e2, m5⟩, hr⟩ : ∃ r, tryR m0 (sleR k m0 (st == -2147483647) (IntKind.i32.wrap (wt + 1))) = r := ⟨_, rfl⟩
      refine ⟨(m0, k2, e2, m5), ⟨rfl, rfl, ⟨hok, hd1', hb, hv0, hp⟩, hr⟩, fun d3 hd3 => ?_⟩
      refine ⟨fun h4 => ?_, fun h4 => ?_⟩
      · obtain ⟨hS, he⟩ := tryR_none hr (by have h5 : (e2 != 0) = true := h4; simpa using h5)
        rw [hS] at hx
        have hx' : (Core.zero, (4 : Int), m) = (k', e', m') := hx
        cases hx'
        subst he
        refine WpE.into (aliasSlot 5 0 0 m.l.length cap rfl rfl) ?_
        refine fin_k tt_ok (rs := rs_r32_taltwt) rfl rfl (hK cap hc) [0, 6] rfl ?_ rfl rfl rfl rfl
        rw [seg_all]; rfl
      · have he : e2 = 0 := by have h5 : (e2 != 0) = false := h4; simpa using h5
        have hS := tryR_some hr he
        rw [hS] at hx
        have hx' : (k2, (0 : Int), m5) = (k', e', m') := hx
        cases hx'
        exact fin_k tt_ok (rs := rs_r32_taltwt) rfl rfl (hK d3 hd3) [0, 4] rfl rfl rfl rfl rfl rfl
noncomputable abbrev eRtaltwt : Ent := .st (conS (P := Try.prog) (f := f_r32_taltwt) fun cargs σ0 => match cargs, σ0 with
  | [.agg cs, .s (.sl 0 0 n cap)], [.view xs] => withCore cs fun k hk => some ⟨.ex (Ram × Core × Int × Ram) fun q => .ask (n = q.1.l.length ∧ xs = bytesI q.1.l ∧ (k.ok ∧ q.1.l.length ≤ cap ∧ k.busy = true ∧ validB q.1 k.wptr = true ∧ priB k.pri = true) ∧ tryR q.1 (talR k q.1 (k.ck (k.pri == 1))) = q.2) (RES q.1 q.2.2.2 q.2.1 q.2.2.1), fun K h => by
      obtain ⟨⟨m, k', e', m'⟩, ⟨e1, e2, ⟨h1, h2, h3, h4, h5⟩, h6⟩, h⟩ := h
      dsimp only at e1 e2 h2 h4 h6 h
      subst e1; subst e2; subst hk
      exact Rtaltwt_c k m cap _ k' e' m' h1 h2 h3 h4 h5 rfl h6 K h⟩
  | _, _ => none)
end Go.Proofs

namespace Go.Proofs
open Go Go.Sx
set_option maxRecDepth 10000
theorem trm_rel {k : Core} {m : Ram} {w p : Int} {k2 : Core} {e2 : Int} {m2 : Ram} (hp : priB p = true) (hT : trmR k m w p = (k2, e2, m2)) :
    (remR k m w p = none ∧ e2 = 4) ∨ (remR k m w p = some (k2, true, m2) ∧ e2 = 0) ∨ (remR k m w p = some (k, false, m) ∧ e2 = 6) := by
  unfold trmR at hT
  rw [hp, Bool.not_true, cond_false] at hT
  rcases hr : remL queN m w NP (k.tm (p == 1)) with _ | _ | bef
  · have hR : remR k m w p = none := by unfold remR; rw [hr]; rfl
    rw [hR] at hT
    have hT' : (Core.zero, (4 : Int), m) = (k2, e2, m2) := hT
    cases hT'
    exact .inl ⟨hR, rfl⟩
  · have hR : remR k m w p = some (k, false, m) := by unfold remR; rw [hr]; rfl
    rw [hR] at hT
    have hT' : (Core.zero, (6 : Int), m) = (k2, e2, m2) := hT
    cases hT'
    exact .inr (.inr ⟨hR, rfl⟩)
  · have hR : remR k m w p = some (lnkK k bef (m.word (IntKind.i32.wrap (w + -16))) (p == 1), true, lnkM m bef (m.word (IntKind.i32.wrap (w + -16)))) := by unfold remR; rw [hr]; rfl
    rw [hR] at hT
    have hT' : (lnkK k bef (m.word (IntKind.i32.wrap (w + -16))) (p == 1), (0 : Int), lnkM m bef (m.word (IntKind.i32.wrap (w + -16)))) = (k2, e2, m2) := hT
    cases hT'
    exact .inr (.inl ⟨hR, rfl⟩)
noncomputable abbrev ctRDi : CT := [(f_r29_Set, eRSet), (f_r29_Word, eRWord9), (f_r32_After, .pure spAfter), (f_r32_Remove, eRRemove)]
theorem ctRDi_ok : CTok Try.prog ctRDi := ⟨con_ok cal_r29_Set _, con_ok cal_r29_Word _, ceRAfter, con_ok cal_r32_Remove _, trivial⟩
set_option maxHeartbeats 4000000 in
theorem Rdist_c (k : Core) (m : Ram) (cap : Nat) (k' : Core) (e' : Int) (m' : Ram) (hok : k.ok) (hc : m.l.length ≤ cap) (hp : priB k.pri = true) (hx : tryR m (disR k m) = (k', e', m')) :
    Con Try.prog f_r32_dist [.agg k.sv, .s (.sl 0 0 m.l.length cap)] [.view (bytesI m.l)] (RES m m' k' e') := by
  intro K hK
  have e0 : IntKind.i32.wrap (4 * 0) = 0 := by decide
  have e4 : IntKind.i32.wrap (4 * -4) = -16 := by decide
  have e5 : IntKind.i32.wrap (4 * -5) = -20 := by decide
  obtain ⟨m1, hm1⟩ : ∃ m1, m.set (IntKind.i32.wrap (k.wptr + IntKind.i32.wrap (4 * 0))) k.a = m1 := ⟨_, rfl⟩
  have hl1 : m1.l.length = m.l.length := by rw [← hm1, set_len]
  obtain ⟨st, hst⟩ : ∃ st, m.word (IntKind.i32.wrap (k.wptr + IntKind.i32.wrap (4 * -4))) = st := ⟨_, rfl⟩
  obtain ⟨wt, hwt⟩ : ∃ wt, m.word (IntKind.i32.wrap (k.wptr + IntKind.i32.wrap (4 * -5))) = wt := ⟨_, rfl⟩
  obtain ⟨w0', hw0'⟩ : ∃ w0', m.word (IntKind.i32.wrap (k.wptr + IntKind.i32.wrap (4 * 0))) = w0' := ⟨_, rfl⟩
  have hE : disR k m = bif bif k.b != 0 then st == -2147483647 else false then (bif bif aftB wt k.c then w0' == -1 else false then some (k.abc 1, m1) else some (k.abc 0, m))
      else bif bif k.b != 0 then st != -2147483646 else false then disE k (remR k m k.wptr k.pri) else some (k.abc 0, m) := by
    unfold disR
    rw [← hm1, ← hst, ← hwt, ← hw0', e0, e4, e5, Int.add_zero]
    obtain ⟨s, hs'⟩ : ∃ s, m.word (IntKind.i32.wrap (k.wptr + -16)) = s := ⟨_, rfl⟩
    rw [hs']
    cases h0 : (k.b == 0)
    · rw [show (k.b != 0) = true by simp at h0 ⊢; exact h0]
      show (bif (s == -2147483646) then _ else bif (s == -2147483647) then _ else _) = _
      cases h1 : (s == -2147483646)
      · rw [show (s != -2147483646) = true by simp at h1 ⊢; exact h1]; rfl
      · rw [show s = -2147483646 by simpa using h1]; rfl
    · rw [show (k.b != 0) = false by simp at h0 ⊢; exact h0]; rfl
  rw [hE] at hx
  refine enter fn_r32_dist rfl nt_r32_dist rfl rfl (fun φ w0 β0 F => ?_)
  refine c_run tt_ok ctRDi_ok k_r32_dist [] 60 (by kernel_rfl) ?_
  refine ⟨m, ⟨rfl, rfl⟩, ?_⟩
  rw [hst]
  refine ⟨fun h1 => ?_, fun h1 => ?_⟩
  · rw [h1, cond_true] at hx
    show WpC _ _ _ _ _
    refine c_waysH tt_ok ctRDi_ok k_r32_dist [1] rfl rfl rfl ?_
    repeat' (first | exact trivial | exact ⟨rfl, trivial⟩ | (refine Exists.intro m ?_; refine And.intro ⟨rfl, rfl⟩ ?_) | (refine And.intro ?_ ?_) | (refine fun _ => ?_))
    all_goals first
      | assumption
      | (exfalso; simp_all; done)
      | skip
    · refine e_run tt_ok ctRDi_ok k_r32_dist [] 60 (by kernel_rfl) ?_
      refine ⟨fun h4 => ?_, fun h4 => ?_⟩
      · rw [hwt, hw0'] at h4
        rw [show (bif aftB wt k.c then w0' == -1 else false) = true from h4, cond_true] at hx
        have hx' : (k.abc 1, (0 : Int), m1) = (k', e', m') := hx
        cases hx'
        refine ⟨m, ⟨rfl, rfl, hc⟩, fun d1 hd1 => ?_⟩
        rw [hm1]
        exact fin_k tt_ok (rs := rs_r32_dist) rfl rfl (hK d1 (by rw [hl1]; exact hd1)) [0, 3] rfl rfl rfl rfl rfl rfl
      · rw [hwt, hw0'] at h4
        rw [show (bif aftB wt k.c then w0' == -1 else false) = false from h4, cond_false] at hx
        have hx' : (k.abc 0, (0 : Int), m) = (k', e', m') := hx
        cases hx'
        refine WpE.into (aliasSlot 5 0 0 m.l.length cap rfl rfl) ?_
        refine fin_k tt_ok (rs := rs_r32_dist) rfl rfl (hK cap hc) [0, 3] rfl ?_ rfl rfl rfl rfl
        rw [seg_all]; rfl
    · rename_i hg
      rw [hwt] at hg
      rw [hg] at hx
      have hx' : (k.abc 0, (0 : Int), m) = (k', e', m') := hx
      cases hx'
      refine e_run tt_ok ctRDi_ok k_r32_dist [] 60 (by kernel_rfl) ?_
      refine ⟨fun h => absurd h (by decide), fun _ => ?_⟩
      refine WpE.into (aliasSlot 5 0 0 m.l.length cap rfl rfl) ?_
      refine fin_k tt_ok (rs := rs_r32_dist) rfl rfl (hK cap hc) [0, 3] rfl ?_ rfl rfl rfl rfl
      rw [seg_all]; rfl
  · rw [h1, cond_false] at hx
    refine ⟨fun h2 => ?_, fun h2 => ?_⟩
    · rw [h2, cond_true] at hx
      obtain ⟨⟨k2, e2, m2⟩, hT⟩ : ∃ r, trmR k m k.wptr k.pri = r := ⟨_, rfl⟩
      have hrel := trm_rel hp hT
      refine ⟨(m, k2, e2, m2), ⟨rfl, rfl, ⟨hok, hc⟩, hT⟩, fun d1 hd1 => ?_⟩
      have hcap : m.l.length ≤ cap := hc
      refine ⟨fun h3 => ?_, fun h3 => ?_⟩
      · have he : e2 = 4 := by have h5 : (e2 == 4) = true := h3; simpa using h5
        rcases hrel with ⟨hR, _⟩ | ⟨_, hh⟩ | ⟨_, hh⟩
        · rw [hR] at hx
          have hx' : (Core.zero, (4 : Int), m) = (k', e', m') := hx
          cases hx'
          subst he
          refine WpE.into (aliasSlot 5 0 0 m.l.length cap rfl rfl) ?_
          refine fin_k tt_ok (rs := rs_r32_dist) rfl rfl (hK cap hc) [0, 5] rfl ?_ rfl rfl rfl rfl
          rw [seg_all]; rfl
        · omega
        · omega
      · have hne : e2 ≠ 4 := by have h5 : (e2 == 4) = false := h3; simpa using h5
        refine ⟨fun h6 => ?_, fun h6 => ?_⟩
        · have he : e2 = 0 := by have h5 : (e2 == 0) = true := h6; simpa using h5
          rcases hrel with ⟨_, hh⟩ | ⟨hR, _⟩ | ⟨_, hh⟩
          · omega
          · obtain ⟨m3, hm3⟩ : ∃ m3, m2.set (IntKind.i32.wrap (k.wptr + IntKind.i32.wrap (4 * -4))) (-2147483646) = m3 := ⟨_, rfl⟩
            have hl3 : m3.l.length = m2.l.length := by rw [← hm3, set_len]
            rw [hR] at hx
            have hx' : (k2.abc 0, (0 : Int), m2.set (IntKind.i32.wrap (k.wptr + -16)) (-2147483646)) = (k', e', m') := hx
            rw [← e4, hm3] at hx'
            cases hx'
            refine ⟨m2, ⟨rfl, rfl, hd1⟩, fun d2 hd2 => ?_⟩
            rw [hm3]
            exact fin_k tt_ok (rs := rs_r32_dist) rfl rfl (hK d2 (by rw [hl3]; exact hd2)) [0, 5] rfl rfl rfl rfl rfl rfl
          · omega
        · have hne0 : e2 ≠ 0 := by have h5 : (e2 == 0) = false := h6; simpa using h5
          rcases hrel with ⟨_, hh⟩ | ⟨_, hh⟩ | ⟨hR, _⟩
          · omega
          · omega
          · obtain ⟨m3, hm3⟩ : ∃ m3, m.set (IntKind.i32.wrap (k.wptr + IntKind.i32.wrap (4 * -4))) (-2147483646) = m3 := ⟨_, rfl⟩
            have hl3 : m3.l.length = m.l.length := by rw [← hm3, set_len]
            rw [hR] at hx
            have hx' : (k.abc 0, (0 : Int), m.set (IntKind.i32.wrap (k.wptr + -16)) (-2147483646)) = (k', e', m') := hx
            rw [← e4, hm3] at hx'
            cases hx'
            refine ⟨m, ⟨rfl, rfl, hc⟩, fun d2 hd2 => ?_⟩
            rw [hm3]
            exact fin_k tt_ok (rs := rs_r32_dist) rfl rfl (hK d2 (by rw [hl3]; exact hd2)) [0, 5] rfl rfl rfl rfl rfl rfl
    · rw [h2, cond_false] at hx
      have hx' : (k.abc 0, (0 : Int), m) = (k', e', m') := hx
      cases hx'
      refine WpE.into (aliasSlot 5 0 0 m.l.length cap rfl rfl) ?_
      refine fin_k tt_ok (rs := rs_r32_dist) rfl rfl (hK cap hc) [0, 3] rfl ?_ rfl rfl rfl rfl
      rw [seg_all]; rfl
noncomputable abbrev eRdist : Ent := .st (conS (P := Try.prog) (f := f_r32_dist) fun cargs σ0 => match cargs, σ0 with
  | [.agg cs, .s (.sl 0 0 n cap)], [.view xs] => withCore cs fun k hk => some ⟨.ex (Ram × Core × Int × Ram) fun q => .ask (n = q.1.l.length ∧ xs = bytesI q.1.l ∧ (k.ok ∧ q.1.l.length ≤ cap ∧ priB k.pri = true) ∧ tryR q.1 (disR k q.1) = q.2) (RES q.1 q.2.2.2 q.2.1 q.2.2.1), fun K h => by
      obtain ⟨⟨m, k', e', m'⟩, ⟨e1, e2, ⟨h1, h2, h3⟩, h6⟩, h⟩ := h
      dsimp only at e1 e2 h2 h6 h
      subst e1; subst e2; subst hk
      exact Rdist_c k m cap k' e' m' h1 h2 h3 h6 K h⟩
  | _, _ => none)
end Go.Proofs

namespace Go.Proofs
open Go Go.Sx
set_option maxRecDepth 10000
theorem RMine_c (f n : Int) : Con Try.prog f_r32_Mine [.agg [.int .u8 f, .int .i32 n]] [] (.ret (.t (.s (.bool (mineT f n)))) []) := by
  intro K hK
  unfold mineT at hK
  refine enter fn_r32_Mine rfl nt_r32_Mine rfl rfl (fun φ w0 β0 F => ?_)
  refine c_run tt_ok (ct := []) trivial k_r32_Mine [] 60 (by kernel_rfl) ?_
  refine ⟨fun h0 => ?_, fun h0 => ?_⟩
  · rw [show (f != 15) = true from h0, cond_true] at hK
    exact fin_k tt_ok (rs := rs_r32_Mine) rfl rfl hK [] rfl rfl rfl rfl rfl rfl
  rw [show (f != 15) = false from h0, cond_false] at hK
  refine fin_k tt_ok (rs := rs_r32_Mine) rfl rfl hK [] (t1b ?_) rfl rfl rfl rfl rfl
  cases (n == 34) <;> cases (n == 84) <;> cases (n == 43) <;> cases (n == 78) <;> cases (n == 81) <;> cases (n == 71) <;> cases (n == 46) <;> rfl
theorem ceRMine : CEok Try.prog f_r32_Mine spMineT := ⟨cal_r32_Mine, fun args p v h hp => by
  unfold spMineT at h; split at h
  · cases h; exact (RMine_c _ _).pure
  · cases h⟩
noncomputable abbrev ctRXc : CT := [(f_r32_Mine, .pure spMineT), (f_r29_Valid, eRValid), (f_r29_Set, eRSet), (f_r32_After, .pure spAfter), (f_r32_sleep, eRsleep), (f_r32_enbt, eRenbt), (f_r32_taltwt, eRtaltwt), (f_r32_dist, eRdist)]
theorem ctRXc_ok : CTok Try.prog ctRXc := ⟨ceRMine, con_ok cal_r29_Valid _, con_ok cal_r29_Set _, ceRAfter, con_ok cal_r32_sleep _, con_ok cal_r32_enbt _, con_ok cal_r32_taltwt _, con_ok cal_r32_dist _, trivial⟩
theorem RExec_n (k : Core) (m : Ram) (cap : Nat) (f n : Int) (hc : m.l.length ≤ cap) (hp : (!priB k.pri) = true) : Con Try.prog f_r32_Exec [.agg k.sv, .s (.sl 0 0 m.l.length cap), .agg [.int .u8 f, .int .i32 n]] [.view (bytesI m.l)] (RES m m .zero 2) := by
  intro K hK
  refine enter fn_r32_Exec rfl nt_r32_Exec rfl rfl (fun φ w0 β0 F => ?_)
  refine c_run tt_ok ctRXc_ok k_r32_Exec [] 60 (by kernel_rfl) ?_
  refine ⟨fun h => ?_, fun h => ?_⟩
  · refine WpE.into (aliasSlot 7 0 0 m.l.length cap rfl rfl) ?_
    refine fin_k tt_ok (rs := rs_r32_Exec) rfl rfl (hK cap hc) [0, 4] rfl ?_ rfl rfl rfl rfl
    rw [seg_all]; rfl
  · rw [priB_not, hp] at h; cases h
set_option maxHeartbeats 4000000 in
theorem RExec_0 (k : Core) (m : Ram) (cap : Nat) (f n : Int) (k' : Core) (e' : Int) (m' : Ram) (hok : ({ k with pri := 0 } : Core).ok) (hc : m.l.length ≤ cap) (hx : texR { k with pri := 0 } m f n = (k', e', m')) : Con Try.prog f_r32_Exec [.agg ({ k with pri := 0 } : Core).sv, .s (.sl 0 0 m.l.length cap), .agg [.int .u8 f, .int .i32 n]] [.view (bytesI m.l)] (RES m m' k' e') := by
  intro K hK
  have e3 : IntKind.i32.wrap (4 * -3) = -12 := by decide
  have e4 : IntKind.i32.wrap (4 * -4) = -16 := by decide
  obtain ⟨m1, hm1⟩ : ∃ m1, m.set (IntKind.i32.wrap (k.wptr + IntKind.i32.wrap (4 * -3))) (-2147483647) = m1 := ⟨_, rfl⟩
  obtain ⟨m2, hm2⟩ : ∃ m2, m1.set (IntKind.i32.wrap (k.wptr + IntKind.i32.wrap (4 * -4))) (-2147483646) = m2 := ⟨_, rfl⟩
  have hl1 : m1.l.length = m.l.length := by rw [← hm1, set_len]
  have hl2 : m2.l.length = m.l.length := by rw [← hm2, set_len, hl1]
  have hpb : priB (0 : Int) = true := rfl
  have hx0 : (bif !mineT f n then (Core.zero, (280 : Int), m) else bif !k.busy then (.zero, 8, m) else tryR m (excR { k with pri := 0 } m n)) = (k', e', m') := hx
  have hXc : excR { k with pri := 0 } m n = bif n == 34 then some ({ k with a := k.k0, b := k.a, c := k.b, pri := 0 }, m) else bif n == 84 then some ({ k with k0 := k.a, k1 := k.a, ticks := 0, a := k.b, b := k.c, pri := 0 }, m)
      else bif !validB m k.wptr then none
      else bif n == 43 then (bif !aftB k.k0 k.a then sleR { k with pri := 0 } m true (IntKind.i32.wrap (k.a + 1)) else some ({ k with pri := 0 }, m))
      else bif n == 78 then some ({ k with pri := 0 }, (m.set (IntKind.i32.wrap (k.wptr + -12)) tSet).set (IntKind.i32.wrap (k.wptr + -16)) tNot)
      else bif n == 71 then some ({ k with b := k.c, pri := 0 }, enbM { k with pri := 0 } m)
      else bif n == 81 then talR { k with pri := 0 } m k.k0
      else bif n == 46 then disR { k with pri := 0 } m
      else some ({ k with pri := 0 }, m) := rfl
  rw [hXc] at hx0
  clear hx hXc
  refine enter fn_r32_Exec rfl nt_r32_Exec rfl rfl (fun φ w0 β0 F => ?_)
  refine c_run tt_ok ctRXc_ok k_r32_Exec [] 90 (by kernel_rfl) ?_
  refine ⟨fun h => absurd h (by decide), fun _ => ?_⟩
  refine ⟨trivial, fun h => ?_, fun h => ?_⟩
  · rw [show (!mineT f n) = true from h, cond_true] at hx0
    cases hx0
    refine WpE.into (aliasSlot 7 0 0 m.l.length cap rfl rfl) ?_
    refine fin_k tt_ok (rs := rs_r32_Exec) rfl rfl (hK cap hc) [0, 4] rfl ?_ rfl rfl rfl rfl
    rw [seg_all]; rfl
  have hmine : mineT f n = true := by have h2 : (!mineT f n) = false := h; simpa using h2
  rw [show (!mineT f n) = false from h, cond_false] at hx0
  refine ⟨fun h => ?_, fun h => ?_⟩
  · rw [show (!k.busy) = true from h, cond_true] at hx0
    cases hx0
    refine WpE.into (aliasSlot 7 0 0 m.l.length cap rfl rfl) ?_
    refine fin_k tt_ok (rs := rs_r32_Exec) rfl rfl (hK cap hc) [0, 4] rfl ?_ rfl rfl rfl rfl
    rw [seg_all]; rfl
  have hbusy : k.busy = true := by have h2 : (!k.busy) = false := h; simpa using h2
  rw [show (!k.busy) = false from h, cond_false] at hx0
  refine ⟨fun h34 => ?_, fun h34 => ?_⟩
  · rw [show (n == 34) = true from h34, cond_true] at hx0
    cases hx0
    refine WpE.into (aliasSlot 7 0 0 m.l.length cap rfl rfl) ?_
    refine fin_k tt_ok (rs := rs_r32_Exec) rfl rfl (hK cap hc) [0, 4] rfl ?_ rfl rfl rfl rfl
    rw [seg_all]; rfl
  rw [show (n == 34) = false from h34, cond_false] at hx0
  refine ⟨fun h84 => ?_, fun h84 => ?_⟩
  · rw [show (n == 84) = true from h84, cond_true] at hx0
    cases hx0
    refine WpE.into (aliasSlot 7 0 0 m.l.length cap rfl rfl) ?_
    refine fin_k tt_ok (rs := rs_r32_Exec) rfl rfl (hK cap hc) [0, 4] rfl ?_ rfl rfl rfl rfl
    rw [seg_all]; rfl
  rw [show (n == 84) = false from h84, cond_false] at hx0
  refine ⟨m, ⟨rfl, rfl, hok.wptr⟩, fun hv => ?_, fun hv => ?_⟩
  · rw [show (!validB m k.wptr) = true from hv, cond_true] at hx0
    cases hx0
    refine WpE.into (aliasSlot 7 0 0 m.l.length cap rfl rfl) ?_
    refine fin_k tt_ok (rs := rs_r32_Exec) rfl rfl (hK cap hc) [0, 4] rfl ?_ rfl rfl rfl rfl
    rw [seg_all]; rfl
  have hval : validB m k.wptr = true := by have h2 : (!validB m k.wptr) = false := hv; simpa using h2
  rw [show (!validB m k.wptr) = false from hv, cond_false] at hx0
  refine ⟨fun h43 => ?_, fun h43 => ?_⟩
  · rw [show (n == 43) = true from h43, cond_true] at hx0
    refine ⟨trivial, ?_⟩
    refine ⟨fun ha => ?_, fun ha => ?_⟩
    · rw [show (!aftB k.k0 k.a) = false by rw [show aftB k.k0 k.a = true from ha]; rfl, cond_false] at hx0
      cases hx0
      refine WpE.into (aliasSlot 7 0 0 m.l.length cap rfl rfl) ?_
      refine fin_k tt_ok (rs := rs_r32_Exec) rfl rfl (hK cap hc) [0, 4] rfl ?_ rfl rfl rfl rfl
      rw [seg_all]; rfl
    · rw [show (!aftB k.k0 k.a) = true by rw [show aftB k.k0 k.a = false from ha]; rfl, cond_true] at hx0
      refine ⟨(m, k', e', m'), ⟨rfl, rfl, ⟨hok, hc, hbusy, hval, hpb⟩, hx0⟩, fun d1 hd1 => ?_⟩
      exact fin_k tt_ok (rs := rs_r32_Exec) rfl rfl (hK d1 hd1) [0, 4] rfl rfl rfl rfl rfl rfl
  rw [show (n == 43) = false from h43, cond_false] at hx0
  refine ⟨fun h78 => ?_, fun h78 => ?_⟩
  · rw [show (n == 78) = true from h78, cond_true] at hx0
    refine ⟨m, ⟨rfl, rfl, hc⟩, fun d1 hd1 => ?_⟩
    rw [hm1]
    have hd1' : m1.l.length ≤ d1 := by rw [hl1]; exact hd1
    have hx' : (({ k with pri := 0 } : Core), (0 : Int), m2) = (k', e', m') := by rw [← hm2, ← hm1, e3, e4]; exact hx0
    cases hx'
    subst hm2
    show WpC _ _ _ _ _
    refine c_waysH tt_ok ctRXc_ok k_r32_Exec [] rfl rfl rfl ?_
    repeat' (first | exact trivial | exact ⟨rfl, trivial⟩ | (refine Exists.intro m1 ?_; refine And.intro ⟨rfl, rfl, hd1'⟩ ?_) | (refine And.intro ?_ ?_) | (refine fun _ => ?_))
    all_goals
      refine e_run tt_ok ctRXc_ok k_r32_Exec [] 60 (by kernel_rfl) ?_
      exact fin_k tt_ok (rs := rs_r32_Exec) rfl rfl (hK _ (by rw [set_len]; assumption)) [0, 5] rfl rfl rfl rfl rfl rfl
  rw [show (n == 78) = false from h78, cond_false] at hx0
  refine ⟨fun h71 => ?_, fun h71 => ?_⟩
  · rw [show (n == 71) = true from h71, cond_true] at hx0
    have hx' : (({ k with b := k.c, pri := 0 } : Core), (0 : Int), enbM { k with pri := 0 } m) = (k', e', m') := hx0
    cases hx'
    refine ⟨(m, { k with b := k.c, pri := 0 }, 0, enbM { k with pri := 0 } m), ⟨rfl, rfl, hc, rfl⟩, fun d1 hd1 => ?_⟩
    exact fin_k tt_ok (rs := rs_r32_Exec) rfl rfl (hK d1 hd1) [0, 4] rfl rfl rfl rfl rfl rfl
  rw [show (n == 71) = false from h71, cond_false] at hx0
  refine ⟨fun h81 => ?_, fun h81 => ?_⟩
  · rw [show (n == 81) = true from h81, cond_true] at hx0
    refine ⟨(m, k', e', m'), ⟨rfl, rfl, ⟨hok, hc, hbusy, hval, hpb⟩, hx0⟩, fun d1 hd1 => ?_⟩
    exact fin_k tt_ok (rs := rs_r32_Exec) rfl rfl (hK d1 hd1) [0, 4] rfl rfl rfl rfl rfl rfl
  rw [show (n == 81) = false from h81, cond_false] at hx0
  have h46 : (n == 46) = true := by
    unfold mineT at hmine
    rw [show (n == 34) = false from h34, show (n == 84) = false from h84, show (n == 43) = false from h43, show (n == 78) = false from h78, show (n == 81) = false from h81, show (n == 71) = false from h71] at hmine
    cases hf : (f != 15)
    · rw [hf] at hmine; exact hmine
    · rw [hf] at hmine; cases hmine
  rw [h46, cond_true] at hx0
  refine ⟨(m, k', e', m'), ⟨rfl, rfl, ⟨hok, hc, hpb⟩, hx0⟩, fun d1 hd1 => ?_⟩
  exact fin_k tt_ok (rs := rs_r32_Exec) rfl rfl (hK d1 hd1) [0, 4] rfl rfl rfl rfl rfl rfl
set_option maxHeartbeats 4000000 in
theorem RExec_1 (k : Core) (m : Ram) (cap : Nat) (f n : Int) (k' : Core) (e' : Int) (m' : Ram) (hok : ({ k with pri := 1 } : Core).ok) (hc : m.l.length ≤ cap) (hx : texR { k with pri := 1 } m f n = (k', e', m')) : Con Try.prog f_r32_Exec [.agg ({ k with pri := 1 } : Core).sv, .s (.sl 0 0 m.l.length cap), .agg [.int .u8 f, .int .i32 n]] [.view (bytesI m.l)] (RES m m' k' e') := by
  intro K hK
  have e3 : IntKind.i32.wrap (4 * -3) = -12 := by decide
  have e4 : IntKind.i32.wrap (4 * -4) = -16 := by decide
  obtain ⟨m1, hm1⟩ : ∃ m1, m.set (IntKind.i32.wrap (k.wptr + IntKind.i32.wrap (4 * -3))) (-2147483647) = m1 := ⟨_, rfl⟩
  obtain ⟨m2, hm2⟩ : ∃ m2, m1.set (IntKind.i32.wrap (k.wptr + IntKind.i32.wrap (4 * -4))) (-2147483646) = m2 := ⟨_, rfl⟩
  have hl1 : m1.l.length = m.l.length := by rw [← hm1, set_len]
  have hl2 : m2.l.length = m.l.length := by rw [← hm2, set_len, hl1]
  have hpb : priB (1 : Int) = true := rfl
  have hx0 : (bif !mineT f n then (Core.zero, (280 : Int), m) else bif !k.busy then (.zero, 8, m) else tryR m (excR { k with pri := 1 } m n)) = (k', e', m') := hx
  have hXc : excR { k with pri := 1 } m n = bif n == 34 then some ({ k with a := k.k1, b := k.a, c := k.b, pri := 1 }, m) else bif n == 84 then some ({ k with k0 := k.a, k1 := k.a, ticks := 0, a := k.b, b := k.c, pri := 1 }, m)
      else bif !validB m k.wptr then none
      else bif n == 43 then (bif !aftB k.k1 k.a then sleR { k with pri := 1 } m true (IntKind.i32.wrap (k.a + 1)) else some ({ k with pri := 1 }, m))
      else bif n == 78 then some ({ k with pri := 1 }, (m.set (IntKind.i32.wrap (k.wptr + -12)) tSet).set (IntKind.i32.wrap (k.wptr + -16)) tNot)
      else bif n == 71 then some ({ k with b := k.c, pri := 1 }, enbM { k with pri := 1 } m)
      else bif n == 81 then talR { k with pri := 1 } m k.k1
      else bif n == 46 then disR { k with pri := 1 } m
      else some ({ k with pri := 1 }, m) := rfl
  rw [hXc] at hx0
  clear hx hXc
  refine enter fn_r32_Exec rfl nt_r32_Exec rfl rfl (fun φ w0 β0 F => ?_)
  refine c_run tt_ok ctRXc_ok k_r32_Exec [] 90 (by kernel_rfl) ?_
  refine ⟨fun h => absurd h (by decide), fun _ => ?_⟩
  refine ⟨trivial, fun h => ?_, fun h => ?_⟩
  · rw [show (!mineT f n) = true from h, cond_true] at hx0
    cases hx0
    refine WpE.into (aliasSlot 7 0 0 m.l.length cap rfl rfl) ?_
    refine fin_k tt_ok (rs := rs_r32_Exec) rfl rfl (hK cap hc) [0, 4] rfl ?_ rfl rfl rfl rfl
    rw [seg_all]; rfl
  have hmine : mineT f n = true := by have h2 : (!mineT f n) = false := h; simpa using h2
  rw [show (!mineT f n) = false from h, cond_false] at hx0
  refine ⟨fun h => ?_, fun h => ?_⟩
  · rw [show (!k.busy) = true from h, cond_true] at hx0
    cases hx0
    refine WpE.into (aliasSlot 7 0 0 m.l.length cap rfl rfl) ?_
    refine fin_k tt_ok (rs := rs_r32_Exec) rfl rfl (hK cap hc) [0, 4] rfl ?_ rfl rfl rfl rfl
    rw [seg_all]; rfl
  have hbusy : k.busy = true := by have h2 : (!k.busy) = false := h; simpa using h2
  rw [show (!k.busy) = false from h, cond_false] at hx0
  refine ⟨fun h34 => ?_, fun h34 => ?_⟩
  · rw [show (n == 34) = true from h34, cond_true] at hx0
    cases hx0
    refine WpE.into (aliasSlot 7 0 0 m.l.length cap rfl rfl) ?_
    refine fin_k tt_ok (rs := rs_r32_Exec) rfl rfl (hK cap hc) [0, 4] rfl ?_ rfl rfl rfl rfl
    rw [seg_all]; rfl
  rw [show (n == 34) = false from h34, cond_false] at hx0
  refine ⟨fun h84 => ?_, fun h84 => ?_⟩
  · rw [show (n == 84) = true from h84, cond_true] at hx0
    cases hx0
    refine WpE.into (aliasSlot 7 0 0 m.l.length cap rfl rfl) ?_
    refine fin_k tt_ok (rs := rs_r32_Exec) rfl rfl (hK cap hc) [0, 4] rfl ?_ rfl rfl rfl rfl
    rw [seg_all]; rfl
  rw [show (n == 84) = false from h84, cond_false] at hx0
  refine ⟨m, ⟨rfl, rfl, hok.wptr⟩, fun hv => ?_, fun hv => ?_⟩
  · rw [show (!validB m k.wptr) = true from hv, cond_true] at hx0
    cases hx0
    refine WpE.into (aliasSlot 7 0 0 m.l.length cap rfl rfl) ?_
    refine fin_k tt_ok (rs := rs_r32_Exec) rfl rfl (hK cap hc) [0, 4] rfl ?_ rfl rfl rfl rfl
    rw [seg_all]; rfl
  have hval : validB m k.wptr = true := by have h2 : (!validB m k.wptr) = false := hv; simpa using h2
  rw [show (!validB m k.wptr) = false from hv, cond_false] at hx0
  refine ⟨fun h43 => ?_, fun h43 => ?_⟩
  · rw [show (n == 43) = true from h43, cond_true] at hx0
    refine ⟨trivial, ?_⟩
    refine ⟨fun ha => ?_, fun ha => ?_⟩
    · rw [show (!aftB k.k1 k.a) = false by rw [show aftB k.k1 k.a = true from ha]; rfl, cond_false] at hx0
      cases hx0
      refine WpE.into (aliasSlot 7 0 0 m.l.length cap rfl rfl) ?_
      refine fin_k tt_ok (rs := rs_r32_Exec) rfl rfl (hK cap hc) [0, 4] rfl ?_ rfl rfl rfl rfl
      rw [seg_all]; rfl
    · rw [show (!aftB k.k1 k.a) = true by rw [show aftB k.k1 k.a = false from ha]; rfl, cond_true] at hx0
      refine ⟨(m, k', e', m'), ⟨rfl, rfl, ⟨hok, hc, hbusy, hval, hpb⟩, hx0⟩, fun d1 hd1 => ?_⟩
      exact fin_k tt_ok (rs := rs_r32_Exec) rfl rfl (hK d1 hd1) [0, 4] rfl rfl rfl rfl rfl rfl
  rw [show (n == 43) = false from h43, cond_false] at hx0
  refine ⟨fun h78 => ?_, fun h78 => ?_⟩
  · rw [show (n == 78) = true from h78, cond_true] at hx0
    refine ⟨m, ⟨rfl, rfl, hc⟩, fun d1 hd1 => ?_⟩
    rw [hm1]
    have hd1' : m1.l.length ≤ d1 := by rw [hl1]; exact hd1
    have hx' : (({ k with pri := 1 } : Core), (0 : Int), m2) = (k', e', m') := by rw [← hm2, ← hm1, e3, e4]; exact hx0
    cases hx'
    subst hm2
    show WpC _ _ _ _ _
    refine c_waysH tt_ok ctRXc_ok k_r32_Exec [] rfl rfl rfl ?_
    repeat' (first | exact trivial | exact ⟨rfl, trivial⟩ | (refine Exists.intro m1 ?_; refine And.intro ⟨rfl, rfl, hd1'⟩ ?_) | (refine And.intro ?_ ?_) | (refine fun _ => ?_))
    all_goals
      refine e_run tt_ok ctRXc_ok k_r32_Exec [] 60 (by kernel_rfl) ?_
      exact fin_k tt_ok (rs := rs_r32_Exec) rfl rfl (hK _ (by rw [set_len]; assumption)) [0, 5] rfl rfl rfl rfl rfl rfl
  rw [show (n == 78) = false from h78, cond_false] at hx0
  refine ⟨fun h71 => ?_, fun h71 => ?_⟩
  · rw [show (n == 71) = true from h71, cond_true] at hx0
    have hx' : (({ k with b := k.c, pri := 1 } : Core), (0 : Int), enbM { k with pri := 1 } m) = (k', e', m') := hx0
    cases hx'
    refine ⟨(m, { k with b := k.c, pri := 1 }, 0, enbM { k with pri := 1 } m), ⟨rfl, rfl, hc, rfl⟩, fun d1 hd1 => ?_⟩
    exact fin_k tt_ok (rs := rs_r32_Exec) rfl rfl (hK d1 hd1) [0, 4] rfl rfl rfl rfl rfl rfl
  rw [show (n == 71) = false from h71, cond_false] at hx0
  refine ⟨fun h81 => ?_, fun h81 => ?_⟩
  · rw [show (n == 81) = true from h81, cond_true] at hx0
    refine ⟨(m, k', e', m'), ⟨rfl, rfl, ⟨hok, hc, hbusy, hval, hpb⟩, hx0⟩, fun d1 hd1 => ?_⟩
    exact fin_k tt_ok (rs := rs_r32_Exec) rfl rfl (hK d1 hd1) [0, 4] rfl rfl rfl rfl rfl rfl
  rw [show (n == 81) = false from h81, cond_false] at hx0
  have h46 : (n == 46) = true := by
    unfold mineT at hmine
    rw [show (n == 34) = false from h34, show (n == 84) = false from h84, show (n == 43) = false from h43, show (n == 78) = false from h78, show (n == 81) = false from h81, show (n == 71) = false from h71] at hmine
    cases hf : (f != 15)
    · rw [hf] at hmine; exact hmine
    · rw [hf] at hmine; cases hmine
  rw [h46, cond_true] at hx0
  refine ⟨(m, k', e', m'), ⟨rfl, rfl, ⟨hok, hc, hpb⟩, hx0⟩, fun d1 hd1 => ?_⟩
  exact fin_k tt_ok (rs := rs_r32_Exec) rfl rfl (hK d1 hd1) [0, 4] rfl rfl rfl rfl rfl rfl
noncomputable abbrev eRExec : Ent := .st (conS (P := Try.prog) (f := f_r32_Exec) fun cargs σ0 => match cargs, σ0 with
  | [.agg cs, .s (.sl 0 0 n0 cap), .agg [.int .u8 f, .int .i32 n]], [.view xs] => withCore cs fun k hk => some ⟨.ex (Ram × Core × Int × Ram) fun q => .ask (n0 = q.1.l.length ∧ xs = bytesI q.1.l ∧ (k.ok ∧ q.1.l.length ≤ cap) ∧ texR k q.1 f n = q.2) (RES q.1 q.2.2.2 q.2.1 q.2.2.1), fun K h => by
      obtain ⟨⟨m, k', e', m'⟩, ⟨e1, e2, ⟨h1, h2⟩, h6⟩, h⟩ := h
      dsimp only at e1 e2 h2 h6 h
      subst e1; subst e2; subst hk
      rcases hp : (!priB k.pri) with _ | _
      · rcases priB_two hp with hp0 | hp0
        · have hkk : ({ k with pri := 0 } : Core) = k := by rw [← hp0]
          rw [← hkk] at h1 h6 ⊢
          exact RExec_0 k m cap f n k' e' m' h1 h2 h6 K h
        · have hkk : ({ k with pri := 1 } : Core) = k := by rw [← hp0]
          rw [← hkk] at h1 h6 ⊢
          exact RExec_1 k m cap f n k' e' m' h1 h2 h6 K h
      · unfold texR at h6
        rw [hp, cond_true] at h6
        cases h6
        exact RExec_n k m cap f n h2 hp K h⟩
  | _, _ => none)
end Go.Proofs
