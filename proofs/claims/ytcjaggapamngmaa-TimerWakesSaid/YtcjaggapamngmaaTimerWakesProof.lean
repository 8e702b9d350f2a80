/- PROVED: TimerWakes returns true for every input of its types, and writes nothing that was there. Conditions: none beyond the row's own. -/
import Derived.Test.YtcjaggapamngmaaRows
import Derived.Test.YtcjaggapamngmaaWalkJ
import Derived.Test.YtcjaggapamngmaaWalkA
import Derived.Test.YtcjaggapamngmaaSxC
import Derived.Lib.SmallJoins

namespace Go.Proofs.Ytcjaggapamngmaa
open Go Go.Sx Go.ChangeShapes Go.WideShapes Go.ChangeAt Go.RowKit Go.Proofs
set_option linter.unusedVariables false

theorem ownTimerWakes : ownKnob Try.prog.godebug = none := by kernel_rfl
theorem laidOutTimerWakes : laidOutB Try.prog = true := by kernel_rfl

theorem walkTimerWakes (a0 : Int) (a1 : Option Addr) (len1 cap1 : Nat) (l1 : List Int) (w : World) (w0 : (Lit.int .i32 a0).wf = true) (w1 : IsRow .u8 w a1 len1 cap1 l1) :
    Calls Try.prog 6 #[.int .i32 a0, .slice a1 len1 cap1] w fun e w' => e = .returned (.bool true) ∧ Below w.heap.size w w' := by
  have h := law_con (TimerWakes_c a0 l1 cap1 (i32_fit w0) (fun n hn => u8_fit (w1.fit n hn))) rfl (β := fun i => match i with | 0 => rowBd a1 | _ => ⟨0, 0, true⟩) (w := w) (fun i c hc => by
    match i, hc with
    | 0, hc => cases hc; exact w1.sat _
    | i + 1, hc => simp at hc)
  simp only [List.map_cons, List.map_nil] at h
  rw [w1.den rfl] at h
  exact h

set_option maxRecDepth 100000 in
theorem liftedTimerWakes (os : Os) (started : os.Started) (H : Type) (enc : TypeId × Value → H) :
    ReturnsInHanded {} Try.checked os 6 .any (Rows.timerWakesSpec.pre6 enc Try.prog Try.f6 Rows.timerWakesRow.domain false) (Rows.timerWakesSpec.post enc Try.prog Try.f6 false true false false) := by
  refine returnsInHanded_of_change (C := Try.checked) ownTimerWakes started (by kernel_rfl) Try.func6
    (ChangeSpec.witness6 (enc := enc) (C := Try.checked) false ⟨#[], #[.int .i32 0, .slice none 0 0], []⟩ 8 (by kernel_rfl) (by kernel_rfl) (by kernel_rfl) (by kernel_rfl)) ?_
  intro W base args ds gs before hval0 hW hcnd _
  have hval : ∀ (j : Nat) t v, Try.f6.params[j]? = some t → args[j]? = some v → Value.okWide Try.prog W .any base t v := hval0
  have hW' := hW
  obtain ⟨p, q, hA0, hV, rfl, hfz, hnd⟩ := hW
  have hA : DataW.TrodAll enc Try.prog W 0 (fun _ => true) true Try.f6.params.toList args.toList ds p := hA0
  rw [Try.params6] at hA hval
  obtain ⟨v0, vs0, d0, ds0, p0, q0, hargs, rfl, rfl, h0, r0⟩ := trodAll_cons hA
  obtain ⟨v1, vs1, d1, ds1, p1, q1, rfl, rfl, rfl, h1, r1⟩ := trodAll_cons r0
  obtain ⟨rfl, rfl, rfl⟩ := trodAll_nil r1
  obtain rfl : args = #[v0, v1] := by cases args; simp_all
  obtain ⟨rfl, rfl⟩ := trodVars_none hV
  obtain ⟨a0, rfl, rfl, rfl, w0⟩ := open_int Try.underlying21 (hval 0 21 v0 rfl rfl) h0
  obtain ⟨a1, len1, cap1, rfl⟩ := okWide_slice Try.underlying31 (hval 1 31 v1 rfl rfl)
  have k1 := h1
  have lt1 : ∀ x ∈ p1, x.block < W.heap.size := by obtain ⟨m, hm⟩ := k1; exact DataW.trod_lt m _ _ _ hm
  obtain ⟨l1, w1⟩ : ∃ l, IsRow .u8 W a1 len1 cap1 l := by
    obtain ⟨fuel, hf⟩ := h1
    exact open_row Try.underlying31 Try.underlying5 (by kernel_rfl) (hval 1 31 _ rfl rfl) hf
  clear hA0 hval0
  refine (walkTimerWakes a0 a1 len1 cap1 l1 W w0 w1).mono fun e W' ⟨he, bel⟩ => ?_
  subst he
  exact ⟨_, rfl, _, _, _, [], _, [], hW', trodAll_mk1 (shut_bool Try.underlying4 _), (trodAll_cons_mk (shut_int Try.underlying21 w0) (trodAll_cons_mk (Below.trod laidOutTimerWakes (by kernel_rfl) (of_decide_eq_true (by kernel_rfl)) k1 bel lt1) trodAll_mk0)), rfl, bel.frame _, fun h => by cases h⟩

theorem overTimerWakes : Rows.timerWakesRow.holds Try.pinned (OpenSpec.ofChange Rows.timerWakesSpec) :=
  OpenClaim.holds_of_wide 6 Try.f6 rfl rfl rfl rfl rfl rfl rfl ⟨rfl, rfl, rfl, rfl, rfl⟩ rfl rfl rfl rfl rfl (by kernel_rfl) Try.func6 (by kernel_rfl)
    (of_decide_eq_true (by kernel_rfl)) (by unfold Func.isWrapper; first | (rw [if_pos (by decide +kernel)]; kernel_rfl) | (rw [if_neg (by decide +kernel)]; exact ⟨rfl, rfl⟩))
    (fun os started H enc _ => liftedTimerWakes os started H enc)

theorem timerWakesProved : Rows.TimerWakesSaid := overTimerWakes
#print axioms timerWakesProved
end Go.Proofs.Ytcjaggapamngmaa
