/- PROVED: CodeShortest returns true for every input of its types, and writes nothing that was there. Conditions: none beyond the row's own. -/
import Derived.Test.YtbefefoegbfamaaRows
import Derived.Test.YtbefefoegbfamaaWalk
import Derived.Test.YtbefefoegbfamaaLawC
import Derived.Test.YtbefefoegbfamaaSxB

namespace Go.Proofs.Ytbefefoegbfamaa
open Go Go.Sx Go.ChangeShapes Go.WideShapes Go.ChangeAt Go.RowKit Go.Proofs
set_option linter.unusedVariables false

theorem ownCodeShortest : ownKnob Try.prog.godebug = none := by kernel_rfl
theorem laidOutCodeShortest : laidOutB Try.prog = true := by kernel_rfl

theorem walkCodeShortest (a0 : Option Addr) (len0 cap0 : Nat) (l0 : List Int) (w : World) (w0 : IsRow .u8 w a0 len0 cap0 l0) :
    Calls Try.prog 5 #[.slice a0 len0 cap0] w fun e w' => e = .returned (.bool true) ∧ Below w.heap.size w w' := by
  have h := law_below (CodeShortest_c l0 cap0 (by rw [w0.hlen]; exact w0.hcap) (shortest_law _ (fun y hy => byte_fit w0.fit y (List.mem_of_mem_take hy))) (getS_err _)) rfl (β := fun i => match i with | 0 => rowBd a0 | _ => ⟨0, 0, true⟩) (w := w) (fun i c hc => by
    match i, hc with
    | 0, hc => cases hc; exact w0.sat _
    | i + 1, hc => simp at hc)
  simp only [List.map_cons, List.map_nil] at h
  rw [w0.den rfl] at h
  exact h

set_option maxRecDepth 100000 in
theorem liftedCodeShortest (os : Os) (started : os.Started) (H : Type) (enc : TypeId × Value → H) :
    ReturnsInHanded {} Try.checked os 5 .any (Rows.codeShortestSpec.pre6 enc Try.prog Try.f5 Rows.codeShortestRow.domain false) (Rows.codeShortestSpec.post enc Try.prog Try.f5 false true false false) := by
  refine returnsInHanded_of_change (C := Try.checked) ownCodeShortest started (by kernel_rfl) Try.func5
    (ChangeSpec.witness6 (enc := enc) (C := Try.checked) false ⟨#[], #[.slice none 0 0], []⟩ 8 (by kernel_rfl) (by kernel_rfl) (by kernel_rfl) (by kernel_rfl)) ?_
  intro W base args ds gs before hval0 hW hcnd _
  have hval : ∀ (j : Nat) t v, Try.f5.params[j]? = some t → args[j]? = some v → Value.okWide Try.prog W .any base t v := hval0
  have hW' := hW
  obtain ⟨p, q, hA0, hV, rfl, hfz, hnd⟩ := hW
  have hA : DataW.TrodAll enc Try.prog W 0 (fun _ => true) true Try.f5.params.toList args.toList ds p := hA0
  rw [Try.params5] at hA hval
  obtain ⟨v0, vs0, d0, ds0, p0, q0, hargs, rfl, rfl, h0, r0⟩ := trodAll_cons hA
  obtain ⟨rfl, rfl, rfl⟩ := trodAll_nil r0
  obtain rfl : args = #[v0] := by cases args; simp_all
  obtain ⟨rfl, rfl⟩ := trodVars_none hV
  obtain ⟨a0, len0, cap0, rfl⟩ := okWide_slice Try.underlying22 (hval 0 22 v0 rfl rfl)
  have k0 := h0
  have lt0 : ∀ x ∈ p0, x.block < W.heap.size := by obtain ⟨m, hm⟩ := k0; exact DataW.trod_lt m _ _ _ hm
  obtain ⟨l0, w0⟩ : ∃ l, IsRow .u8 W a0 len0 cap0 l := by
    obtain ⟨fuel, hf⟩ := h0
    exact open_row Try.underlying22 Try.underlying5 (by kernel_rfl) (hval 0 22 _ rfl rfl) hf
  clear hA0 hval0
  refine (walkCodeShortest a0 len0 cap0 l0 W w0).mono fun e W' ⟨he, bel⟩ => ?_
  subst he
  exact ⟨_, rfl, _, _, _, [], _, [], hW', trodAll_mk1 (shut_bool Try.underlying4 _), (trodAll_cons_mk (Below.trod laidOutCodeShortest (by kernel_rfl) (of_decide_eq_true (by kernel_rfl)) k0 bel lt0) trodAll_mk0), rfl, bel.frame _, fun h => by cases h⟩

theorem overCodeShortest : Rows.codeShortestRow.holds Try.pinned (OpenSpec.ofChange Rows.codeShortestSpec) :=
  OpenClaim.holds_of_wide 5 Try.f5 rfl rfl rfl rfl rfl rfl rfl ⟨rfl, rfl, rfl, rfl, rfl⟩ rfl rfl rfl rfl rfl (by kernel_rfl) Try.func5 (by kernel_rfl)
    (of_decide_eq_true (by kernel_rfl)) (by unfold Func.isWrapper; first | (rw [if_pos (by decide +kernel)]; kernel_rfl) | (rw [if_neg (by decide +kernel)]; exact ⟨rfl, rfl⟩))
    (fun os started H enc _ => liftedCodeShortest os started H enc)

theorem codeShortestProved : Rows.CodeShortestSaid := overCodeShortest
#print axioms codeShortestProved
end Go.Proofs.Ytbefefoegbfamaa
