/- PROVED: CpuKnown returns true for every input of its types, and writes nothing that was there. Conditions: none beyond the row's own. -/
import Derived.Test.YtgmjidajikhimaaGreatRows
import Derived.Test.YtgmjidajikhimaaGreatWalkH
import Derived.Test.YtgmjidajikhimaaGreatSxC

namespace Go.Proofs.YtgmjidajikhimaaGreat
open Go Go.Sx Go.ChangeShapes Go.WideShapes Go.ChangeAt Go.RowKit Go.Proofs
set_option linter.unusedVariables false

theorem ownCpuKnown : ownKnob Tryz.prog.godebug = none := by kernel_rfl
theorem laidOutCpuKnown : laidOutB Tryz.prog = true := by kernel_rfl

theorem walkCpuKnown  (w : World)  :
    Calls Tryz.prog 9 #[] w fun e w' => e = .returned (.bool true) ∧ Below w.heap.size w w' := by
  have h := law_con (CpuKnown_c) rfl (β := fun _ => ⟨0, 0, true⟩) (w := w) (fun i c hc => by
    match i, hc with
    | i + 0, hc => simp at hc)
  simp only [List.map_cons, List.map_nil] at h
  exact h

set_option maxRecDepth 100000 in
theorem liftedCpuKnown (os : Os) (started : os.Started) (H : Type) (enc : TypeId × Value → H) :
    ReturnsInHanded {} Tryz.checked os 9 .any (Rows.cpuKnownSpec.pre6 enc Tryz.prog Tryz.f9 Rows.cpuKnownRow.domain false) (Rows.cpuKnownSpec.post enc Tryz.prog Tryz.f9 false true false false) := by
  refine returnsInHanded_of_change (C := Tryz.checked) ownCpuKnown started (by kernel_rfl) Tryz.func9
    (ChangeSpec.witness6 (enc := enc) (C := Tryz.checked) false ⟨#[], #[], []⟩ 8 (by kernel_rfl) (by kernel_rfl) (by kernel_rfl) (by kernel_rfl)) ?_
  intro W base args ds gs before hval0 hW hcnd _
  have hval : ∀ (j : Nat) t v, Tryz.f9.params[j]? = some t → args[j]? = some v → Value.okWide Tryz.prog W .any base t v := hval0
  have hW' := hW
  obtain ⟨p, q, hA0, hV, rfl, hfz, hnd⟩ := hW
  have hA : DataW.TrodAll enc Tryz.prog W 0 (fun _ => true) true Tryz.f9.params.toList args.toList ds p := hA0
  rw [Tryz.params9] at hA hval
  obtain ⟨hargs, rfl, rfl⟩ := trodAll_nil hA
  obtain rfl : args = #[] := by cases args; simp_all
  obtain ⟨rfl, rfl⟩ := trodVars_none hV
  clear hA0 hval0
  refine (walkCpuKnown  W ).mono fun e W' ⟨he, bel⟩ => ?_
  subst he
  exact ⟨_, rfl, _, _, _, [], _, [], hW', trodAll_mk1 (shut_bool Tryz.underlying4 _), trodAll_mk0, rfl, bel.frame _, fun h => by cases h⟩

theorem overCpuKnown : Rows.cpuKnownRow.holds Tryz.pinned (OpenSpec.ofChange Rows.cpuKnownSpec) :=
  OpenClaim.holds_of_wide 9 Tryz.f9 rfl rfl rfl rfl rfl rfl rfl ⟨rfl, rfl, rfl, rfl, rfl⟩ rfl rfl rfl rfl rfl (by kernel_rfl) Tryz.func9 (by kernel_rfl)
    (of_decide_eq_true (by kernel_rfl)) (by unfold Func.isWrapper; first | (rw [if_pos (by decide +kernel)]; kernel_rfl) | (rw [if_neg (by decide +kernel)]; exact ⟨rfl, rfl⟩))
    (fun os started H enc _ => liftedCpuKnown os started H enc)

theorem cpuKnownProved : Rows.CpuKnownSaid := overCpuKnown
#print axioms cpuKnownProved
end Go.Proofs.YtgmjidajikhimaaGreat
