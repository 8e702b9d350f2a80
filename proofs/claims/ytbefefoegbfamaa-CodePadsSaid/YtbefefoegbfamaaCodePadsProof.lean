/- PROVED: CodePads returns true for every input of its types, and writes nothing that was there. Conditions: none beyond the row's own. -/
import Derived.Test.YtbefefoegbfamaaRows
import Derived.Test.YtbefefoegbfamaaWalk
import Derived.Test.YtbefefoegbfamaaLawE
import Derived.Test.YtbefefoegbfamaaSxB
import Derived.Lib.SmallJoins

namespace Go.Proofs.Ytbefefoegbfamaa
open Go Go.Sx Go.ChangeShapes Go.WideShapes Go.ChangeAt Go.RowKit Go.Proofs
set_option linter.unusedVariables false

theorem ownCodePads : ownKnob Try.prog.godebug = none := by kernel_rfl
theorem laidOutCodePads : laidOutB Try.prog = true := by kernel_rfl

theorem walkCodePads (a0 b0 : Int) (a1 : Int) (w : World) (w0 : (Lit.int .u8 a0).wf = true) (u0 : (Lit.int .i32 b0).wf = true) (w1 : (Lit.int .u8 a1).wf = true) :
    Calls Try.prog 7 #[.agg #[.int .u8 a0, .int .i32 b0], .int .u8 a1] w fun e w' => e = .returned (.bool true) ∧ Below w.heap.size w w' := by
  have h := law_below (CodePads_c a0 b0 a1 (u8_fit w1) (putOk7 (i32_fit u0)) (fix_law (u8_fit w0).1 (u8_fit w0).2).1 (pads_get (u8_fit w0).1 (u8_fit w0).2 (i32_fit u0)).1 (pads_get (u8_fit w0).1 (u8_fit w0).2 (i32_fit u0)).2.1 (pads_get (u8_fit w0).1 (u8_fit w0).2 (i32_fit u0)).2.2) rfl (β := fun _ => ⟨0, 0, true⟩) (w := w) (fun i c hc => by
    match i, hc with
    | i + 0, hc => simp at hc)
  simp only [List.map_cons, List.map_nil] at h
  exact h

set_option maxRecDepth 100000 in
theorem liftedCodePads (os : Os) (started : os.Started) (H : Type) (enc : TypeId × Value → H) :
    ReturnsInHanded {} Try.checked os 7 .any (Rows.codePadsSpec.pre6 enc Try.prog Try.f7 Rows.codePadsRow.domain false) (Rows.codePadsSpec.post enc Try.prog Try.f7 false true false false) := by
  refine returnsInHanded_of_change (C := Try.checked) ownCodePads started (by kernel_rfl) Try.func7
    (ChangeSpec.witness6 (enc := enc) (C := Try.checked) false ⟨#[], #[.agg #[.int .u8 0, .int .i32 0], .int .u8 0], []⟩ 8 (by kernel_rfl) (by kernel_rfl) (by kernel_rfl) (by kernel_rfl)) ?_
  intro W base args ds gs before hval0 hW hcnd _
  have hval : ∀ (j : Nat) t v, Try.f7.params[j]? = some t → args[j]? = some v → Value.okWide Try.prog W .any base t v := hval0
  have hW' := hW
  obtain ⟨p, q, hA0, hV, rfl, hfz, hnd⟩ := hW
  have hA : DataW.TrodAll enc Try.prog W 0 (fun _ => true) true Try.f7.params.toList args.toList ds p := hA0
  rw [Try.params7] at hA hval
  obtain ⟨v0, vs0, d0, ds0, p0, q0, hargs, rfl, rfl, h0, r0⟩ := trodAll_cons hA
  obtain ⟨v1, vs1, d1, ds1, p1, q1, rfl, rfl, rfl, h1, r1⟩ := trodAll_cons r0
  obtain ⟨rfl, rfl, rfl⟩ := trodAll_nil r1
  obtain rfl : args = #[v0, v1] := by cases args; simp_all
  obtain ⟨rfl, rfl⟩ := trodVars_none hV
  have k0 := h0
  have lt0 : ∀ x ∈ p0, x.block < W.heap.size := by obtain ⟨m, hm⟩ := k0; exact DataW.trod_lt m _ _ _ hm
  obtain ⟨c0, e0, y0, z0, nn0, rfl, rfl, rfl, t0, s0⟩ := Go.Joins.open_agg2 Try.underlying26 (by kernel_rfl) (by kernel_rfl) (hval 0 26 v0 rfl rfl) h0
  obtain ⟨a0, g0, _, w0⟩ := DataW.trod_int Try.underlying5 t0
  obtain ⟨b0, f0, _, u0⟩ := DataW.trod_int Try.underlying21 s0
  cases g0; cases f0
  obtain ⟨a1, rfl, rfl, rfl, w1⟩ := open_int Try.underlying5 (hval 1 5 v1 rfl rfl) h1
  clear hA0 hval0
  refine (walkCodePads a0 b0 a1 W w0 u0 w1).mono fun e W' ⟨he, bel⟩ => ?_
  subst he
  exact ⟨_, rfl, _, _, _, [], _, [], hW', trodAll_mk1 (shut_bool Try.underlying4 _), (trodAll_cons_mk (Below.trod laidOutCodePads (by kernel_rfl) (of_decide_eq_true (by kernel_rfl)) k0 bel lt0) (trodAll_cons_mk (shut_int Try.underlying5 w1) trodAll_mk0)), rfl, bel.frame _, fun h => by cases h⟩

theorem overCodePads : Rows.codePadsRow.holds Try.pinned (OpenSpec.ofChange Rows.codePadsSpec) :=
  OpenClaim.holds_of_wide 7 Try.f7 rfl rfl rfl rfl rfl rfl rfl ⟨rfl, rfl, rfl, rfl, rfl⟩ rfl rfl rfl rfl rfl (by kernel_rfl) Try.func7 (by kernel_rfl)
    (of_decide_eq_true (by kernel_rfl)) (by unfold Func.isWrapper; first | (rw [if_pos (by decide +kernel)]; kernel_rfl) | (rw [if_neg (by decide +kernel)]; exact ⟨rfl, rfl⟩))
    (fun os started H enc _ => liftedCodePads os started H enc)

theorem codePadsProved : Rows.CodePadsSaid := overCodePads
#print axioms codePadsProved
end Go.Proofs.Ytbefefoegbfamaa
