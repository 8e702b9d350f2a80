/- PROVED: TimerChooses returns true for every input of its types, and writes nothing that was there. Conditions: none beyond the row's own. -/
import Derived.Test.YtcjaggapamngmaaRows
import Derived.Test.YtcjaggapamngmaaWalkL
import Derived.Test.YtcjaggapamngmaaSxC
import Derived.Lib.SmallJoins

namespace Go.Proofs.Ytcjaggapamngmaa
open Go Go.Sx Go.ChangeShapes Go.WideShapes Go.ChangeAt Go.RowKit Go.Proofs
set_option linter.unusedVariables false

theorem ownTimerChooses : ownKnob Try.prog.godebug = none := by kernel_rfl
theorem laidOutTimerChooses : laidOutB Try.prog = true := by kernel_rfl

theorem walkTimerChooses (a0 : Int) (a1 : Option Addr) (len1 cap1 : Nat) (l1 : List Gd) (a2 : Int) (w : World) (w0 : (Lit.int .i32 a0).wf = true) (w1 : IsTab 2 w a1 len1 cap1 (l1.map Gd.vs)) (g1 : ∀ e ∈ l1, Gd.good e) (w2 : (Lit.int .u8 a2).wf = true) :
    Calls Try.prog 7 #[.int .i32 a0, .slice a1 len1 cap1, .int .u8 a2] w fun e w' => e = .returned (.bool true) ∧ Below w.heap.size w w' := by
  have h := law_con (TimerChooses_c a0 a2 l1 cap1 (i32_fit w0) (u8_fit w2) g1) rfl (β := fun i => match i with | 0 => rowBd a1 | _ => ⟨0, 0, true⟩) (w := w) (fun i c hc => by
    match i, hc with
    | 0, hc => cases hc; exact w1.sat _
    | i + 1, hc => simp at hc)
  simp only [List.map_cons, List.map_nil] at h
  have wd1 := w1.den (β := fun i => match i with | 0 => rowBd a1 | _ => ⟨0, 0, true⟩) (i := 0) rfl
  rw [List.length_map] at wd1
  rw [wd1] at h
  exact h

set_option maxRecDepth 100000 in
theorem liftedTimerChooses (os : Os) (started : os.Started) (H : Type) (enc : TypeId × Value → H) :
    ReturnsInHanded {} Try.checked os 7 .any (Rows.timerChoosesSpec.pre6 enc Try.prog Try.f7 Rows.timerChoosesRow.domain false) (Rows.timerChoosesSpec.post enc Try.prog Try.f7 false true false false) := by
  refine returnsInHanded_of_change (C := Try.checked) ownTimerChooses started (by kernel_rfl) Try.func7
    (ChangeSpec.witness6 (enc := enc) (C := Try.checked) false ⟨#[], #[.int .i32 0, .slice none 0 0, .int .u8 0], []⟩ 8 (by kernel_rfl) (by kernel_rfl) (by kernel_rfl) (by kernel_rfl)) ?_
  intro W base args ds gs before hval0 hW hcnd _
  have hval : ∀ (j : Nat) t v, Try.f7.params[j]? = some t → args[j]? = some v → Value.okWide Try.prog W .any base t v := hval0
  have hW' := hW
  obtain ⟨p, q, hA0, hV, rfl, hfz, hnd⟩ := hW
  have hA : DataW.TrodAll enc Try.prog W 0 (fun _ => true) true Try.f7.params.toList args.toList ds p := hA0
  rw [Try.params7] at hA hval
  obtain ⟨v0, vs0, d0, ds0, p0, q0, hargs, rfl, rfl, h0, r0⟩ := trodAll_cons hA
  obtain ⟨v1, vs1, d1, ds1, p1, q1, rfl, rfl, rfl, h1, r1⟩ := trodAll_cons r0
  obtain ⟨v2, vs2, d2, ds2, p2, q2, rfl, rfl, rfl, h2, r2⟩ := trodAll_cons r1
  obtain ⟨rfl, rfl, rfl⟩ := trodAll_nil r2
  obtain rfl : args = #[v0, v1, v2] := by cases args; simp_all
  obtain ⟨rfl, rfl⟩ := trodVars_none hV
  obtain ⟨a0, rfl, rfl, rfl, w0⟩ := open_int Try.underlying21 (hval 0 21 v0 rfl rfl) h0
  obtain ⟨a1, len1, cap1, rfl⟩ := okWide_slice Try.underlying64 (hval 1 64 v1 rfl rfl)
  have k1 := h1
  have lt1 : ∀ x ∈ p1, x.block < W.heap.size := by obtain ⟨m, hm⟩ := k1; exact DataW.trod_lt m _ _ _ hm
  obtain ⟨rows1, kk1, wt1⟩ : ∃ rows, (∀ q ∈ rows, KOK [.bool, .int .u8] q) ∧ IsTab 2 W a1 len1 cap1 rows := by
    obtain ⟨fuel, hf⟩ := h1
    exact open_tab Try.underlying64 Try.underlying68 ⟨rfl, by kernel_rfl, (by show Try.prog.underlying _ = some _; kernel_rfl), rfl, by kernel_rfl, (by show Try.prog.underlying _ = some _; kernel_rfl), trivial⟩ (by kernel_rfl) (hval 1 64 _ rfl rfl) hf
  obtain ⟨l1, rfl, g1⟩ := rows_map (fun q hq => gd_open q (kk1 q hq))
  have w1 := wt1
  obtain ⟨a2, rfl, rfl, rfl, w2⟩ := open_int Try.underlying5 (hval 2 5 v2 rfl rfl) h2
  clear hA0 hval0
  refine (walkTimerChooses a0 a1 len1 cap1 l1 a2 W w0 w1 g1 w2).mono fun e W' ⟨he, bel⟩ => ?_
  subst he
  exact ⟨_, rfl, _, _, _, [], _, [], hW', trodAll_mk1 (shut_bool Try.underlying4 _), (trodAll_cons_mk (shut_int Try.underlying21 w0) (trodAll_cons_mk (Below.trod laidOutTimerChooses (by kernel_rfl) (of_decide_eq_true (by kernel_rfl)) k1 bel lt1) (trodAll_cons_mk (shut_int Try.underlying5 w2) trodAll_mk0))), rfl, bel.frame _, fun h => by cases h⟩

theorem overTimerChooses : Rows.timerChoosesRow.holds Try.pinned (OpenSpec.ofChange Rows.timerChoosesSpec) :=
  OpenClaim.holds_of_wide 7 Try.f7 rfl rfl rfl rfl rfl rfl rfl ⟨rfl, rfl, rfl, rfl, rfl⟩ rfl rfl rfl rfl rfl (by kernel_rfl) Try.func7 (by kernel_rfl)
    (of_decide_eq_true (by kernel_rfl)) (by unfold Func.isWrapper; first | (rw [if_pos (by decide +kernel)]; kernel_rfl) | (rw [if_neg (by decide +kernel)]; exact ⟨rfl, rfl⟩))
    (fun os started H enc _ => liftedTimerChooses os started H enc)

theorem timerChoosesProved : Rows.TimerChoosesSaid := overTimerChooses
#print axioms timerChoosesProved
end Go.Proofs.Ytcjaggapamngmaa
