/- PROVED: CodeKnown returns true for every input of its types, and writes nothing that was there. Conditions: none beyond the row's own. -/
import Derived.Test.YtbefefoegbfamaaRows
import Derived.Test.YtbefefoegbfamaaWalkD
import Derived.Test.YtbefefoegbfamaaSxC

namespace Go.Proofs.Ytbefefoegbfamaa
open Go Go.Sx Go.ChangeShapes Go.WideShapes Go.ChangeAt Go.RowKit Go.Proofs
set_option linter.unusedVariables false

theorem ownCodeKnown : ownKnob Try.prog.godebug = none := by kernel_rfl
theorem laidOutCodeKnown : laidOutB Try.prog = true := by kernel_rfl

theorem walkCodeKnown  (w : World)  :
    Calls Try.prog 10 #[] w fun e w' => e = .returned (.bool true) ∧ Below w.heap.size w w' := by
  have h := law_con (CodeKnown_c) rfl (β := fun _ => ⟨0, 0, true⟩) (w := w) (fun i c hc => by
    match i, hc with
    | i + 0, hc => simp at hc)
  simp only [List.map_cons, List.map_nil] at h
  exact h

set_option maxRecDepth 100000 in
theorem liftedCodeKnown (os : Os) (started : os.Started) (H : Type) (enc : TypeId × Value → H) :
    ReturnsInHanded {} Try.checked os 10 .any (Rows.codeKnownSpec.pre6 enc Try.prog Try.f10 Rows.codeKnownRow.domain false) (Rows.codeKnownSpec.post enc Try.prog Try.f10 false true false false) := by
  refine returnsInHanded_of_change (C := Try.checked) ownCodeKnown started (by kernel_rfl) Try.func10
    (ChangeSpec.witness6 (enc := enc) (C := Try.checked) false ⟨#[], #[], []⟩ 8 (by kernel_rfl) (by kernel_rfl) (by kernel_rfl) (by kernel_rfl)) ?_
  intro W base args ds gs before hval0 hW hcnd _
  have hval : ∀ (j : Nat) t v, Try.f10.params[j]? = some t → args[j]? = some v → Value.okWide Try.prog W .any base t v := hval0
  have hW' := hW
  obtain ⟨p, q, hA0, hV, rfl, hfz, hnd⟩ := hW
  have hA : DataW.TrodAll enc Try.prog W 0 (fun _ => true) true Try.f10.params.toList args.toList ds p := hA0
  rw [Try.params10] at hA hval
  obtain ⟨hargs, rfl, rfl⟩ := trodAll_nil hA
  obtain rfl : args = #[] := by cases args; simp_all
  obtain ⟨rfl, rfl⟩ := trodVars_none hV
  clear hA0 hval0
  refine (walkCodeKnown  W ).mono fun e W' ⟨he, bel⟩ => ?_
  subst he
  exact ⟨_, rfl, _, _, _, [], _, [], hW', trodAll_mk1 (shut_bool Try.underlying4 _), trodAll_mk0, rfl, bel.frame _, fun h => by cases h⟩

theorem overCodeKnown : Rows.codeKnownRow.holds Try.pinned (OpenSpec.ofChange Rows.codeKnownSpec) :=
  OpenClaim.holds_of_wide 10 Try.f10 rfl rfl rfl rfl rfl rfl rfl ⟨rfl, rfl, rfl, rfl, rfl⟩ rfl rfl rfl rfl rfl (by kernel_rfl) Try.func10 (by kernel_rfl)
    (of_decide_eq_true (by kernel_rfl)) (by unfold Func.isWrapper; first | (rw [if_pos (by decide +kernel)]; kernel_rfl) | (rw [if_neg (by decide +kernel)]; exact ⟨rfl, rfl⟩))
    (fun os started H enc _ => liftedCodeKnown os started H enc)

theorem codeKnownProved : Rows.CodeKnownSaid := overCodeKnown
#print axioms codeKnownProved
end Go.Proofs.Ytbefefoegbfamaa
