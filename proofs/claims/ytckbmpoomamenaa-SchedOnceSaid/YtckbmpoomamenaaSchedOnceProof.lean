/- PROVED: SchedOnce returns true for every input of its types, and writes nothing that was there. Conditions: none beyond the row's own. -/
import Derived.Test.YtckbmpoomamenaaRows
import Derived.Test.YtckbmpoomamenaaWalkI
import Derived.Test.YtckbmpoomamenaaSxC
import Derived.Lib.SmallJoins

namespace Go.Proofs.Ytckbmpoomamenaa
open Go Go.Sx Go.ChangeShapes Go.WideShapes Go.ChangeAt Go.RowKit Go.Proofs
set_option linter.unusedVariables false

theorem ownSchedOnce : ownKnob Try.prog.godebug = none := by kernel_rfl
theorem laidOutSchedOnce : laidOutB Try.prog = true := by kernel_rfl

theorem walkSchedOnce (a0 : Option Addr) (len0 cap0 : Nat) (l0 : List Dd) (w : World) (w0 : IsTab 3 w a0 len0 cap0 (l0.map Dd.vs)) (g0 : ∀ e ∈ l0, Dd.good e) :
    Calls Try.prog 6 #[.slice a0 len0 cap0] w fun e w' => e = .returned (.bool true) ∧ Below w.heap.size w w' := by
  have h := law_con (SchedOnce_c l0 cap0 g0 (by rw [show l0.length = len0 from by have := w0.hlen; simpa using this]; exact w0.hcap) w0.hmax) rfl (β := fun i => match i with | 0 => rowBd a0 | _ => ⟨0, 0, true⟩) (w := w) (fun i c hc => by
    match i, hc with
    | 0, hc => cases hc; exact w0.sat _
    | i + 1, hc => simp at hc)
  simp only [List.map_cons, List.map_nil] at h
  have wd0 := w0.den (β := fun i => match i with | 0 => rowBd a0 | _ => ⟨0, 0, true⟩) (i := 0) rfl
  rw [List.length_map] at wd0
  rw [wd0] at h
  exact h

set_option maxRecDepth 100000 in
theorem liftedSchedOnce (os : Os) (started : os.Started) (H : Type) (enc : TypeId × Value → H) :
    ReturnsInHanded {} Try.checked os 6 .any (Rows.schedOnceSpec.pre6 enc Try.prog Try.f6 Rows.schedOnceRow.domain false) (Rows.schedOnceSpec.post enc Try.prog Try.f6 false true false false) := by
  refine returnsInHanded_of_change (C := Try.checked) ownSchedOnce started (by kernel_rfl) Try.func6
    (ChangeSpec.witness6 (enc := enc) (C := Try.checked) false ⟨#[], #[.slice none 0 0], []⟩ 8 (by kernel_rfl) (by kernel_rfl) (by kernel_rfl) (by kernel_rfl)) ?_
  intro W base args ds gs before hval0 hW hcnd _
  have hval : ∀ (j : Nat) t v, Try.f6.params[j]? = some t → args[j]? = some v → Value.okWide Try.prog W .any base t v := hval0
  have hW' := hW
  obtain ⟨p, q, hA0, hV, rfl, hfz, hnd⟩ := hW
  have hA : DataW.TrodAll enc Try.prog W 0 (fun _ => true) true Try.f6.params.toList args.toList ds p := hA0
  rw [Try.params6] at hA hval
  obtain ⟨v0, vs0, d0, ds0, p0, q0, hargs, rfl, rfl, h0, r0⟩ := trodAll_cons hA
  obtain ⟨rfl, rfl, rfl⟩ := trodAll_nil r0
  obtain rfl : args = #[v0] := by cases args; simp_all
  obtain ⟨rfl, rfl⟩ := trodVars_none hV
  obtain ⟨a0, len0, cap0, rfl⟩ := okWide_slice Try.underlying54 (hval 0 54 v0 rfl rfl)
  have k0 := h0
  have lt0 : ∀ x ∈ p0, x.block < W.heap.size := by obtain ⟨m, hm⟩ := k0; exact DataW.trod_lt m _ _ _ hm
  obtain ⟨rows0, kk0, wt0⟩ : ∃ rows, (∀ q ∈ rows, KOK [.int .u8, .int .u8, .int .u8] q) ∧ IsTab 3 W a0 len0 cap0 rows := by
    obtain ⟨fuel, hf⟩ := h0
    exact open_tab Try.underlying54 Try.underlying56 ⟨rfl, by kernel_rfl, (by show Try.prog.underlying _ = some _; kernel_rfl), rfl, by kernel_rfl, (by show Try.prog.underlying _ = some _; kernel_rfl), rfl, by kernel_rfl, (by show Try.prog.underlying _ = some _; kernel_rfl), trivial⟩ (by kernel_rfl) (hval 0 54 _ rfl rfl) hf
  obtain ⟨l0, rfl, g0⟩ := rows_map (fun q hq => dd_conv q (kk0 q hq))
  have w0 := wt0
  clear hA0 hval0
  refine (walkSchedOnce a0 len0 cap0 l0 W w0 g0).mono fun e W' ⟨he, bel⟩ => ?_
  subst he
  exact ⟨_, rfl, _, _, _, [], _, [], hW', trodAll_mk1 (shut_bool Try.underlying4 _), (trodAll_cons_mk (Below.trod laidOutSchedOnce (by kernel_rfl) (of_decide_eq_true (by kernel_rfl)) k0 bel lt0) trodAll_mk0), rfl, bel.frame _, fun h => by cases h⟩

theorem overSchedOnce : Rows.schedOnceRow.holds Try.pinned (OpenSpec.ofChange Rows.schedOnceSpec) :=
  OpenClaim.holds_of_wide 6 Try.f6 rfl rfl rfl rfl rfl rfl rfl ⟨rfl, rfl, rfl, rfl, rfl⟩ rfl rfl rfl rfl rfl (by kernel_rfl) Try.func6 (by kernel_rfl)
    (of_decide_eq_true (by kernel_rfl)) (by unfold Func.isWrapper; first | (rw [if_pos (by decide +kernel)]; kernel_rfl) | (rw [if_neg (by decide +kernel)]; exact ⟨rfl, rfl⟩))
    (fun os started H enc _ => liftedSchedOnce os started H enc)

theorem schedOnceProved : Rows.SchedOnceSaid := overSchedOnce
#print axioms schedOnceProved
end Go.Proofs.Ytckbmpoomamenaa
