/- PROVED: CpuMine returns true for every input of its types, and writes nothing that was there. Conditions: none beyond the row's own. -/
import Derived.Test.YtgmjidajikhimaaGreatRows
import Derived.Test.YtgmjidajikhimaaGreatWalkG
import Derived.Test.YtgmjidajikhimaaGreatSxC

namespace Go.Proofs.YtgmjidajikhimaaGreat
open Go Go.Sx Go.ChangeShapes Go.WideShapes Go.ChangeAt Go.RowKit Go.Proofs
set_option linter.unusedVariables false

theorem ownCpuMine : ownKnob Tryz.prog.godebug = none := by kernel_rfl
theorem laidOutCpuMine : laidOutB Tryz.prog = true := by kernel_rfl

theorem walkCpuMine (x0_0 : Int) (x0_1 : Int) (a1 : Int) (w : World) (h0_0 : (Lit.int .u8 x0_0).wf = true) (h0_1 : (Lit.int .i32 x0_1).wf = true) (w1 : (Lit.int .u8 a1).wf = true) :
    Calls Tryz.prog 5 #[.agg #[.int .u8 x0_0, .int .i32 x0_1], .int .u8 a1] w fun e w' => e = .returned (.bool true) ∧ Below w.heap.size w w' := by
  have h := law_con (CpuMine_c x0_0 x0_1 a1) rfl (β := fun _ => ⟨0, 0, true⟩) (w := w) (fun i c hc => by
    match i, hc with
    | i + 0, hc => simp at hc)
  simp only [List.map_cons, List.map_nil] at h
  try simp only [TV.den, List.map_cons, List.map_nil] at h
  exact h

set_option maxRecDepth 100000 in
theorem liftedCpuMine (os : Os) (started : os.Started) (H : Type) (enc : TypeId × Value → H) :
    ReturnsInHanded {} Tryz.checked os 5 .any (Rows.cpuMineSpec.pre6 enc Tryz.prog Tryz.f5 Rows.cpuMineRow.domain false) (Rows.cpuMineSpec.post enc Tryz.prog Tryz.f5 false true false false) := by
  refine returnsInHanded_of_change (C := Tryz.checked) ownCpuMine started (by kernel_rfl) Tryz.func5
    (ChangeSpec.witness6 (enc := enc) (C := Tryz.checked) false ⟨#[], #[.agg #[.int .u8 0, .int .i32 0], .int .u8 0], []⟩ 8 (by kernel_rfl) (by kernel_rfl) (by kernel_rfl) (by kernel_rfl)) ?_
  intro W base args ds gs before hval0 hW hcnd _
  have hval : ∀ (j : Nat) t v, Tryz.f5.params[j]? = some t → args[j]? = some v → Value.okWide Tryz.prog W .any base t v := hval0
  have hW' := hW
  obtain ⟨p, q, hA0, hV, rfl, hfz, hnd⟩ := hW
  have hA : DataW.TrodAll enc Tryz.prog W 0 (fun _ => true) true Tryz.f5.params.toList args.toList ds p := hA0
  rw [Tryz.params5] at hA hval
  obtain ⟨v0, vs0, d0, ds0, p0, q0, hargs, rfl, rfl, h0, r0⟩ := trodAll_cons hA
  obtain ⟨v1, vs1, d1, ds1, p1, q1, rfl, rfl, rfl, h1, r1⟩ := trodAll_cons r0
  obtain ⟨rfl, rfl, rfl⟩ := trodAll_nil r1
  obtain rfl : args = #[v0, v1] := by cases args; simp_all
  obtain ⟨rfl, rfl⟩ := trodVars_none hV
  have k0 := h0
  have lt0 : ∀ x ∈ p0, x.block < W.heap.size := by obtain ⟨m, hm⟩ := k0; exact DataW.trod_lt m _ _ _ hm
  obtain ⟨x0_0, h0_0, x0_1, h0_1, rfl⟩ := open_flat (ks := [.int .u8, .int .i32]) Tryz.underlying29 (by kernel_rfl) (by kernel_rfl) rfl (hval 0 29 v0 rfl rfl)
  obtain ⟨a1, rfl, rfl, rfl, w1⟩ := open_int Tryz.underlying5 (hval 1 5 v1 rfl rfl) h1
  clear hA0 hval0
  refine (walkCpuMine x0_0 x0_1 a1 W h0_0 h0_1 w1).mono fun e W' ⟨he, bel⟩ => ?_
  subst he
  exact ⟨_, rfl, _, _, _, [], _, [], hW', trodAll_mk1 (shut_bool Tryz.underlying4 _), (trodAll_cons_mk (Below.trod laidOutCpuMine (by kernel_rfl) (of_decide_eq_true (by kernel_rfl)) k0 bel lt0) (trodAll_cons_mk (shut_int Tryz.underlying5 w1) trodAll_mk0)), rfl, bel.frame _, fun h => by cases h⟩

theorem overCpuMine : Rows.cpuMineRow.holds Tryz.pinned (OpenSpec.ofChange Rows.cpuMineSpec) :=
  OpenClaim.holds_of_wide 5 Tryz.f5 rfl rfl rfl rfl rfl rfl rfl ⟨rfl, rfl, rfl, rfl, rfl⟩ rfl rfl rfl rfl rfl (by kernel_rfl) Tryz.func5 (by kernel_rfl)
    (of_decide_eq_true (by kernel_rfl)) (by unfold Func.isWrapper; first | (rw [if_pos (by decide +kernel)]; kernel_rfl) | (rw [if_neg (by decide +kernel)]; exact ⟨rfl, rfl⟩))
    (fun os started H enc _ => liftedCpuMine os started H enc)

theorem cpuMineProved : Rows.CpuMineSaid := overCpuMine
#print axioms cpuMineProved
end Go.Proofs.YtgmjidajikhimaaGreat
