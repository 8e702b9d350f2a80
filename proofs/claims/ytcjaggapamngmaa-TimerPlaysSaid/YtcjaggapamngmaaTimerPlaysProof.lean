/- PROVED: TimerPlays returns true for every input of its types, and writes nothing that was there. Conditions: none beyond the row's own. -/
import Derived.Test.YtcjaggapamngmaaRows
import Derived.Test.YtcjaggapamngmaaWalkK
import Derived.Test.YtcjaggapamngmaaSxE
import Derived.Test.YtcjaggapamngmaaSxC
import Derived.Lib.SmallJoins

namespace Go.Proofs.Ytcjaggapamngmaa
open Go Go.Sx Go.ChangeShapes Go.WideShapes Go.ChangeAt Go.RowKit Go.Proofs
set_option linter.unusedVariables false

theorem ownTimerPlays : ownKnob Try.prog.godebug = none := by kernel_rfl
theorem laidOutTimerPlays : laidOutB Try.prog = true := by kernel_rfl

theorem walkTimerPlays (x0_0 : Int) (x0_1 : Int) (x0_2 : Int) (x0_3 : Int) (x0_4 : Int) (x0_5 : Int) (x0_6 : Bool) (x0_7 : Bool) (x0_8 : Bool) (x0_9 : Bool) (x0_10 : Int) (x0_11 : Int) (x0_12 : Int) (x0_13 : Int) (x0_14 : Int) (x0_15 : Int) (x0_16 : Int) (x0_17 : Int) (x0_18 : Int) (x0_19 : Int) (x0_20 : Bool) (x0_21 : Int) (x0_22 : Int) (x0_23 : Int) (x0_24 : Int) (x0_25 : Int) (x0_26 : Bool) (x0_27 : Int) (a1 : Option Addr) (len1 cap1 : Nat) (l1 : List Int) (a2 : Option Addr) (len2 cap2 : Nat) (l2 : List Pl) (w : World) (h0_0 : (Lit.int .i32 x0_0).wf = true) (h0_1 : (Lit.int .i32 x0_1).wf = true) (h0_2 : (Lit.int .i32 x0_2).wf = true) (h0_3 : (Lit.int .i32 x0_3).wf = true) (h0_4 : (Lit.int .i32 x0_4).wf = true) (h0_5 : (Lit.int .i64 x0_5).wf = true)     (h0_10 : (Lit.int .i32 x0_10).wf = true) (h0_11 : (Lit.int .i32 x0_11).wf = true) (h0_12 : (Lit.int .i32 x0_12).wf = true) (h0_13 : (Lit.int .i32 x0_13).wf = true) (h0_14 : (Lit.int .i32 x0_14).wf = true) (h0_15 : (Lit.int .i32 x0_15).wf = true) (h0_16 : (Lit.int .i32 x0_16).wf = true) (h0_17 : (Lit.int .i32 x0_17).wf = true) (h0_18 : (Lit.int .i32 x0_18).wf = true) (h0_19 : (Lit.int .i32 x0_19).wf = true)  (h0_21 : (Lit.int .i32 x0_21).wf = true) (h0_22 : (Lit.int .i32 x0_22).wf = true) (h0_23 : (Lit.int .i32 x0_23).wf = true) (h0_24 : (Lit.int .i32 x0_24).wf = true) (h0_25 : (Lit.int .i32 x0_25).wf = true)  (h0_27 : (Lit.int .i32 x0_27).wf = true) (w1 : IsRow .u8 w a1 len1 cap1 l1) (w2 : IsTab 6 w a2 len2 cap2 (l2.map Pl.vs)) (g2 : ∀ e ∈ l2, Pl.good e) :
    Calls Try.prog 5 #[.agg #[.int .i32 x0_0, .int .i32 x0_1, .int .i32 x0_2, .int .i32 x0_3, .int .i32 x0_4, .int .i64 x0_5, .bool x0_6, .bool x0_7, .bool x0_8, .bool x0_9, .int .i32 x0_10, .int .i32 x0_11, .int .i32 x0_12, .int .i32 x0_13, .int .i32 x0_14, .int .i32 x0_15, .int .i32 x0_16, .int .i32 x0_17, .int .i32 x0_18, .int .i32 x0_19, .bool x0_20, .int .i32 x0_21, .int .i32 x0_22, .int .i32 x0_23, .int .i32 x0_24, .int .i32 x0_25, .bool x0_26, .int .i32 x0_27], .slice a1 len1 cap1, .slice a2 len2 cap2] w fun e w' => e = .returned (.bool true) ∧ Below w.heap.size w w' := by
  have h := law_con (TimerPlays_c ⟨x0_0, x0_1, x0_2, x0_3, x0_4, x0_5, x0_6, x0_7, x0_8, x0_9, x0_10, x0_11, x0_12, x0_13, x0_14, x0_15, x0_16, x0_17, x0_18, x0_19, x0_20, x0_21, x0_22, x0_23, x0_24, x0_25, x0_26, x0_27⟩ l1 cap1 l2 cap2 ⟨i32_fit h0_0, i32_fit h0_1, i32_fit h0_2, i32_fit h0_3, i32_fit h0_4, i64_fit h0_5, i32_fit h0_10, i32_fit h0_11, i32_fit h0_12, i32_fit h0_13, i32_fit h0_14, i32_fit h0_15, i32_fit h0_16, i32_fit h0_17, i32_fit h0_18, i32_fit h0_19, i32_fit h0_21, i32_fit h0_22, i32_fit h0_23, i32_fit h0_24, i32_fit h0_25, i32_fit h0_27⟩ (fun n hn => u8_fit (w1.fit n hn)) (by rw [w1.hlen]; exact w1.hcap) g2 (by rw [show l2.length = len2 from by have := w2.hlen; simpa using this]; exact w2.hcap) w2.hmax) rfl (β := fun i => match i with | 0 => rowBd a1 | 1 => rowBd a2 | _ => ⟨0, 0, true⟩) (w := w) (fun i c hc => by
    match i, hc with
    | 0, hc => cases hc; exact w1.sat _
    | 1, hc => cases hc; exact w2.sat _
    | i + 2, hc => simp at hc)
  simp only [List.map_cons, List.map_nil] at h
  rw [w1.den rfl] at h
  have wd2 := w2.den (β := fun i => match i with | 0 => rowBd a1 | 1 => rowBd a2 | _ => ⟨0, 0, true⟩) (i := 1) rfl
  rw [List.length_map] at wd2
  rw [wd2] at h
  try simp only [TV.den, List.map_cons, List.map_nil] at h
  exact h

set_option maxRecDepth 100000 in
theorem liftedTimerPlays (os : Os) (started : os.Started) (H : Type) (enc : TypeId × Value → H) :
    ReturnsInHanded {} Try.checked os 5 .any (Rows.timerPlaysSpec.pre6 enc Try.prog Try.f5 Rows.timerPlaysRow.domain false) (Rows.timerPlaysSpec.post enc Try.prog Try.f5 false true false false) := by
  refine returnsInHanded_of_change (C := Try.checked) ownTimerPlays started (by kernel_rfl) Try.func5
    (ChangeSpec.witness6 (enc := enc) (C := Try.checked) false ⟨#[], #[.agg #[.int .i32 0, .int .i32 0, .int .i32 0, .int .i32 0, .int .i32 0, .int .i64 0, .bool false, .bool false, .bool false, .bool false, .int .i32 0, .int .i32 0, .int .i32 0, .int .i32 0, .int .i32 0, .int .i32 0, .int .i32 0, .int .i32 0, .int .i32 0, .int .i32 0, .bool false, .int .i32 0, .int .i32 0, .int .i32 0, .int .i32 0, .int .i32 0, .bool false, .int .i32 0], .slice none 0 0, .slice none 0 0], []⟩ 8 (by kernel_rfl) (by kernel_rfl) (by kernel_rfl) (by kernel_rfl)) ?_
  intro W base args ds gs before hval0 hW hcnd _
  have hval : ∀ (j : Nat) t v, Try.f5.params[j]? = some t → args[j]? = some v → Value.okWide Try.prog W .any base t v := hval0
  have hW' := hW
  obtain ⟨p, q, hA0, hV, rfl, hfz, hnd⟩ := hW
  have hA : DataW.TrodAll enc Try.prog W 0 (fun _ => true) true Try.f5.params.toList args.toList ds p := hA0
  rw [Try.params5] at hA hval
  obtain ⟨v0, vs0, d0, ds0, p0, q0, hargs, rfl, rfl, h0, r0⟩ := trodAll_cons hA
  obtain ⟨v1, vs1, d1, ds1, p1, q1, rfl, rfl, rfl, h1, r1⟩ := trodAll_cons r0
  obtain ⟨v2, vs2, d2, ds2, p2, q2, rfl, rfl, rfl, h2, r2⟩ := trodAll_cons r1
  obtain ⟨rfl, rfl, rfl⟩ := trodAll_nil r2
  obtain rfl : args = #[v0, v1, v2] := by cases args; simp_all
  obtain ⟨rfl, rfl⟩ := trodVars_none hV
  have k0 := h0
  have lt0 : ∀ x ∈ p0, x.block < W.heap.size := by obtain ⟨m, hm⟩ := k0; exact DataW.trod_lt m _ _ _ hm
  obtain ⟨x0_0, h0_0, x0_1, h0_1, x0_2, h0_2, x0_3, h0_3, x0_4, h0_4, x0_5, h0_5, x0_6, x0_7, x0_8, x0_9, x0_10, h0_10, x0_11, h0_11, x0_12, h0_12, x0_13, h0_13, x0_14, h0_14, x0_15, h0_15, x0_16, h0_16, x0_17, h0_17, x0_18, h0_18, x0_19, h0_19, x0_20, x0_21, h0_21, x0_22, h0_22, x0_23, h0_23, x0_24, h0_24, x0_25, h0_25, x0_26, x0_27, h0_27, rfl⟩ := open_flat (ks := [.int .i32, .int .i32, .int .i32, .int .i32, .int .i32, .int .i64, .bool, .bool, .bool, .bool, .int .i32, .int .i32, .int .i32, .int .i32, .int .i32, .int .i32, .int .i32, .int .i32, .int .i32, .int .i32, .bool, .int .i32, .int .i32, .int .i32, .int .i32, .int .i32, .bool, .int .i32]) Try.underlying26 (by kernel_rfl) (by kernel_rfl) rfl (hval 0 26 v0 rfl rfl)
  obtain ⟨a1, len1, cap1, rfl⟩ := okWide_slice Try.underlying31 (hval 1 31 v1 rfl rfl)
  have k1 := h1
  have lt1 : ∀ x ∈ p1, x.block < W.heap.size := by obtain ⟨m, hm⟩ := k1; exact DataW.trod_lt m _ _ _ hm
  obtain ⟨l1, w1⟩ : ∃ l, IsRow .u8 W a1 len1 cap1 l := by
    obtain ⟨fuel, hf⟩ := h1
    exact open_row Try.underlying31 Try.underlying5 (by kernel_rfl) (hval 1 31 _ rfl rfl) hf
  obtain ⟨a2, len2, cap2, rfl⟩ := okWide_slice Try.underlying54 (hval 2 54 v2 rfl rfl)
  have k2 := h2
  have lt2 : ∀ x ∈ p2, x.block < W.heap.size := by obtain ⟨m, hm⟩ := k2; exact DataW.trod_lt m _ _ _ hm
  obtain ⟨rows2, kk2, wt2⟩ : ∃ rows, (∀ q ∈ rows, KOK [.int .u8, .int .i32, .int .i32, .int .i64, .int .u8, .int .i32] q) ∧ IsTab 6 W a2 len2 cap2 rows := by
    obtain ⟨fuel, hf⟩ := h2
    exact open_tabG (gs := [.c (.int .u8), .c (.int .i32), .c (.int .i32), .c (.int .i64), .s [.int .u8, .int .i32]]) Try.underlying54 Try.underlying30 ⟨rfl, ⟨by kernel_rfl, (by show Try.prog.underlying _ = some _; kernel_rfl)⟩, rfl, ⟨by kernel_rfl, (by show Try.prog.underlying _ = some _; kernel_rfl)⟩, rfl, ⟨by kernel_rfl, (by show Try.prog.underlying _ = some _; kernel_rfl)⟩, rfl, ⟨by kernel_rfl, (by show Try.prog.underlying _ = some _; kernel_rfl)⟩, rfl, ⟨by kernel_rfl, _, Try.underlying28, ⟨rfl, by kernel_rfl, (by show Try.prog.underlying _ = some _; kernel_rfl), rfl, by kernel_rfl, (by show Try.prog.underlying _ = some _; kernel_rfl), trivial⟩⟩, trivial⟩ (by kernel_rfl) (hval 2 54 _ rfl rfl) hf
  obtain ⟨l2, rfl, g2⟩ := rows_map (fun q hq => pl_conv q (kk2 q hq))
  have w2 := wt2
  clear hA0 hval0
  refine (walkTimerPlays x0_0 x0_1 x0_2 x0_3 x0_4 x0_5 x0_6 x0_7 x0_8 x0_9 x0_10 x0_11 x0_12 x0_13 x0_14 x0_15 x0_16 x0_17 x0_18 x0_19 x0_20 x0_21 x0_22 x0_23 x0_24 x0_25 x0_26 x0_27 a1 len1 cap1 l1 a2 len2 cap2 l2 W h0_0 h0_1 h0_2 h0_3 h0_4 h0_5     h0_10 h0_11 h0_12 h0_13 h0_14 h0_15 h0_16 h0_17 h0_18 h0_19  h0_21 h0_22 h0_23 h0_24 h0_25  h0_27 w1 w2 g2).mono fun e W' ⟨he, bel⟩ => ?_
  subst he
  exact ⟨_, rfl, _, _, _, [], _, [], hW', trodAll_mk1 (shut_bool Try.underlying4 _), (trodAll_cons_mk (Below.trod laidOutTimerPlays (by kernel_rfl) (of_decide_eq_true (by kernel_rfl)) k0 bel lt0) (trodAll_cons_mk (Below.trod laidOutTimerPlays (by kernel_rfl) (of_decide_eq_true (by kernel_rfl)) k1 bel lt1) (trodAll_cons_mk (Below.trod laidOutTimerPlays (by kernel_rfl) (of_decide_eq_true (by kernel_rfl)) k2 bel lt2) trodAll_mk0))), rfl, bel.frame _, fun h => by cases h⟩

theorem overTimerPlays : Rows.timerPlaysRow.holds Try.pinned (OpenSpec.ofChange Rows.timerPlaysSpec) :=
  OpenClaim.holds_of_wide 5 Try.f5 rfl rfl rfl rfl rfl rfl rfl ⟨rfl, rfl, rfl, rfl, rfl⟩ rfl rfl rfl rfl rfl (by kernel_rfl) Try.func5 (by kernel_rfl)
    (of_decide_eq_true (by kernel_rfl)) (by unfold Func.isWrapper; first | (rw [if_pos (by decide +kernel)]; kernel_rfl) | (rw [if_neg (by decide +kernel)]; exact ⟨rfl, rfl⟩))
    (fun os started H enc _ => liftedTimerPlays os started H enc)

theorem timerPlaysProved : Rows.TimerPlaysSaid := overTimerPlays
#print axioms timerPlaysProved
end Go.Proofs.Ytcjaggapamngmaa
