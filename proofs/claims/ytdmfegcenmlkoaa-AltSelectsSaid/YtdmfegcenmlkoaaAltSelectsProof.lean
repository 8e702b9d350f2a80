/- PROVED: AltSelects returns true for every input of its types, and writes nothing that was there. Conditions: none beyond the row's own. -/
import Derived.Test.YtdmfegcenmlkoaaRows
import Derived.Test.YtdmfegcenmlkoaaWalkC
import Derived.Test.YtdmfegcenmlkoaaSxC
import Derived.Lib.SmallJoins

namespace Go.Proofs.Ytdmfegcenmlkoaa
open Go Go.Sx Go.ChangeShapes Go.WideShapes Go.ChangeAt Go.RowKit Go.Proofs
set_option linter.unusedVariables false

theorem ownAltSelects : ownKnob Try.prog.godebug = none := by kernel_rfl
theorem laidOutAltSelects : laidOutB Try.prog = true := by kernel_rfl

theorem walkAltSelects (a0 : Option Addr) (len0 cap0 : Nat) (l0 : List Grd) (a1 : Int) (w : World) (w0 : IsTab 3 w a0 len0 cap0 (l0.map Grd.vs)) (g0 : ∀ e ∈ l0, Grd.good e) (w1 : (Lit.int .u8 a1).wf = true) :
    Calls Try.prog 4 #[.slice a0 len0 cap0, .int .u8 a1] w fun e w' => e = .returned (.bool true) ∧ Below w.heap.size w w' := by
  have h := law_con (AltSelects_c l0 cap0 a1 g0 (by rw [show l0.length = len0 from by have := w0.hlen; simpa using this]; exact w0.hcap) w0.hmax) rfl (β := fun i => match i with | 0 => rowBd a0 | _ => ⟨0, 0, true⟩) (w := w) (fun i c hc => by
    match i, hc with
    | 0, hc => cases hc; exact w0.sat _
    | i + 1, hc => simp at hc)
  simp only [List.map_cons, List.map_nil] at h
  have wd0 := w0.den (β := fun i => match i with | 0 => rowBd a0 | _ => ⟨0, 0, true⟩) (i := 0) rfl
  rw [List.length_map] at wd0
  rw [wd0] at h
  exact h

set_option maxRecDepth 100000 in
theorem liftedAltSelects (os : Os) (started : os.Started) (H : Type) (enc : TypeId × Value → H) :
    ReturnsInHanded {} Try.checked os 4 .any (Rows.altSelectsSpec.pre6 enc Try.prog Try.f4 Rows.altSelectsRow.domain false) (Rows.altSelectsSpec.post enc Try.prog Try.f4 false true false false) := by
  refine returnsInHanded_of_change (C := Try.checked) ownAltSelects started (by kernel_rfl) Try.func4
    (ChangeSpec.witness6 (enc := enc) (C := Try.checked) false ⟨#[], #[.slice none 0 0, .int .u8 0], []⟩ 8 (by kernel_rfl) (by kernel_rfl) (by kernel_rfl) (by kernel_rfl)) ?_
  intro W base args ds gs before hval0 hW hcnd _
  have hval : ∀ (j : Nat) t v, Try.f4.params[j]? = some t → args[j]? = some v → Value.okWide Try.prog W .any base t v := hval0
  have hW' := hW
  obtain ⟨p, q, hA0, hV, rfl, hfz, hnd⟩ := hW
  have hA : DataW.TrodAll enc Try.prog W 0 (fun _ => true) true Try.f4.params.toList args.toList ds p := hA0
  rw [Try.params4] at hA hval
  obtain ⟨v0, vs0, d0, ds0, p0, q0, hargs, rfl, rfl, h0, r0⟩ := trodAll_cons hA
  obtain ⟨v1, vs1, d1, ds1, p1, q1, rfl, rfl, rfl, h1, r1⟩ := trodAll_cons r0
  obtain ⟨rfl, rfl, rfl⟩ := trodAll_nil r1
  obtain rfl : args = #[v0, v1] := by cases args; simp_all
  obtain ⟨rfl, rfl⟩ := trodVars_none hV
  obtain ⟨a0, len0, cap0, rfl⟩ := okWide_slice Try.underlying27 (hval 0 27 v0 rfl rfl)
  have k0 := h0
  have lt0 : ∀ x ∈ p0, x.block < W.heap.size := by obtain ⟨m, hm⟩ := k0; exact DataW.trod_lt m _ _ _ hm
  obtain ⟨rows0, kk0, wt0⟩ : ∃ rows, (∀ q ∈ rows, KOK [.bool, .bool, .int .u8] q) ∧ IsTab 3 W a0 len0 cap0 rows := by
    obtain ⟨fuel, hf⟩ := h0
    exact open_tab Try.underlying27 Try.underlying43 ⟨rfl, by kernel_rfl, (by show Try.prog.underlying _ = some _; kernel_rfl), rfl, by kernel_rfl, (by show Try.prog.underlying _ = some _; kernel_rfl), rfl, by kernel_rfl, (by show Try.prog.underlying _ = some _; kernel_rfl), trivial⟩ (by kernel_rfl) (hval 0 27 _ rfl rfl) hf
  obtain ⟨l0, rfl, g0⟩ := rows_map (fun q hq => grd_conv q (kk0 q hq))
  have w0 := wt0
  obtain ⟨a1, rfl, rfl, rfl, w1⟩ := open_int Try.underlying5 (hval 1 5 v1 rfl rfl) h1
  clear hA0 hval0
  refine (walkAltSelects a0 len0 cap0 l0 a1 W w0 g0 w1).mono fun e W' ⟨he, bel⟩ => ?_
  subst he
  exact ⟨_, rfl, _, _, _, [], _, [], hW', trodAll_mk1 (shut_bool Try.underlying4 _), (trodAll_cons_mk (Below.trod laidOutAltSelects (by kernel_rfl) (of_decide_eq_true (by kernel_rfl)) k0 bel lt0) (trodAll_cons_mk (shut_int Try.underlying5 w1) trodAll_mk0)), rfl, bel.frame _, fun h => by cases h⟩

theorem overAltSelects : Rows.altSelectsRow.holds Try.pinned (OpenSpec.ofChange Rows.altSelectsSpec) :=
  OpenClaim.holds_of_wide 4 Try.f4 rfl rfl rfl rfl rfl rfl rfl ⟨rfl, rfl, rfl, rfl, rfl⟩ rfl rfl rfl rfl rfl (by kernel_rfl) Try.func4 (by kernel_rfl)
    (of_decide_eq_true (by kernel_rfl)) (by unfold Func.isWrapper; first | (rw [if_pos (by decide +kernel)]; kernel_rfl) | (rw [if_neg (by decide +kernel)]; exact ⟨rfl, rfl⟩))
    (fun os started H enc _ => liftedAltSelects os started H enc)

theorem altSelectsProved : Rows.AltSelectsSaid := overAltSelects
#print axioms altSelectsProved
end Go.Proofs.Ytdmfegcenmlkoaa
