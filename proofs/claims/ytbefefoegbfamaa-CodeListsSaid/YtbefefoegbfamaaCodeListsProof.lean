/- PROVED: CodeLists returns true for every input of its types, and writes nothing that was there. Conditions: none beyond the row's own. -/
import Derived.Test.YtbefefoegbfamaaRows
import Derived.Test.YtbefefoegbfamaaWalkC
import Derived.Test.YtbefefoegbfamaaSxC
import Derived.Lib.SmallJoins

namespace Go.Proofs.Ytbefefoegbfamaa
open Go Go.Sx Go.ChangeShapes Go.WideShapes Go.ChangeAt Go.RowKit Go.Proofs
set_option linter.unusedVariables false

theorem ownCodeLists : ownKnob Try.prog.godebug = none := by kernel_rfl
theorem laidOutCodeLists : laidOutB Try.prog = true := by kernel_rfl

theorem walkCodeLists (a0 : Option Addr) (len0 cap0 : Nat) (l0 : List (Int × Int)) (a1 : Option Addr) (len1 cap1 : Nat) (l1 : List Int) (w : World) (w0 : IsTab 2 w a0 len0 cap0 (l0.map prVS)) (g0 : ∀ e ∈ l0, prGood e) (w1 : IsRow .u8 w a1 len1 cap1 l1) :
    Calls Try.prog 8 #[.slice a0 len0 cap0, .slice a1 len1 cap1] w fun e w' => e = .returned (.bool true) ∧ Below w.heap.size w w' := by
  have h := law_con (CodeLists_d l0 cap0 l1 cap1 g0 (byte_fit w1.fit) (by rw [show l0.length = len0 from by have := w0.hlen; simpa using this]; exact w0.hcap) (by rw [w1.hlen]; exact w1.hcap) w1.hmax w0.hmax) rfl (β := fun i => match i with | 0 => rowBd a0 | 1 => rowBd a1 | _ => ⟨0, 0, true⟩) (w := w) (fun i c hc => by
    match i, hc with
    | 0, hc => cases hc; exact w0.sat _
    | 1, hc => cases hc; exact w1.sat _
    | i + 2, hc => simp at hc)
  simp only [List.map_cons, List.map_nil] at h
  rw [w1.den rfl] at h
  have wd0 := w0.den (β := fun i => match i with | 0 => rowBd a0 | 1 => rowBd a1 | _ => ⟨0, 0, true⟩) (i := 0) rfl
  rw [List.length_map] at wd0
  rw [wd0] at h
  exact h

set_option maxRecDepth 100000 in
theorem liftedCodeLists (os : Os) (started : os.Started) (H : Type) (enc : TypeId × Value → H) :
    ReturnsInHanded {} Try.checked os 8 .any (Rows.codeListsSpec.pre6 enc Try.prog Try.f8 Rows.codeListsRow.domain false) (Rows.codeListsSpec.post enc Try.prog Try.f8 false true false false) := by
  refine returnsInHanded_of_change (C := Try.checked) ownCodeLists started (by kernel_rfl) Try.func8
    (ChangeSpec.witness6 (enc := enc) (C := Try.checked) false ⟨#[], #[.slice none 0 0, .slice none 0 0], []⟩ 8 (by kernel_rfl) (by kernel_rfl) (by kernel_rfl) (by kernel_rfl)) ?_
  intro W base args ds gs before hval0 hW hcnd _
  have hval : ∀ (j : Nat) t v, Try.f8.params[j]? = some t → args[j]? = some v → Value.okWide Try.prog W .any base t v := hval0
  have hW' := hW
  obtain ⟨p, q, hA0, hV, rfl, hfz, hnd⟩ := hW
  have hA : DataW.TrodAll enc Try.prog W 0 (fun _ => true) true Try.f8.params.toList args.toList ds p := hA0
  rw [Try.params8] at hA hval
  obtain ⟨v0, vs0, d0, ds0, p0, q0, hargs, rfl, rfl, h0, r0⟩ := trodAll_cons hA
  obtain ⟨v1, vs1, d1, ds1, p1, q1, rfl, rfl, rfl, h1, r1⟩ := trodAll_cons r0
  obtain ⟨rfl, rfl, rfl⟩ := trodAll_nil r1
  obtain rfl : args = #[v0, v1] := by cases args; simp_all
  obtain ⟨rfl, rfl⟩ := trodVars_none hV
  obtain ⟨a0, len0, cap0, rfl⟩ := okWide_slice Try.underlying47 (hval 0 47 v0 rfl rfl)
  have k0 := h0
  have lt0 : ∀ x ∈ p0, x.block < W.heap.size := by obtain ⟨m, hm⟩ := k0; exact DataW.trod_lt m _ _ _ hm
  obtain ⟨rows0, kk0, wt0⟩ : ∃ rows, (∀ q ∈ rows, KOK [.int .u8, .int .i32] q) ∧ IsTab 2 W a0 len0 cap0 rows := by
    obtain ⟨fuel, hf⟩ := h0
    exact open_tab Try.underlying47 Try.underlying26 ⟨rfl, by kernel_rfl, (by show Try.prog.underlying _ = some _; kernel_rfl), rfl, by kernel_rfl, (by show Try.prog.underlying _ = some _; kernel_rfl), trivial⟩ (by kernel_rfl) (hval 0 47 _ rfl rfl) hf
  obtain ⟨l0, rfl, g0⟩ := rows_map (fun q hq => pr_conv q (kk0 q hq))
  have w0 := wt0
  obtain ⟨a1, len1, cap1, rfl⟩ := okWide_slice Try.underlying22 (hval 1 22 v1 rfl rfl)
  have k1 := h1
  have lt1 : ∀ x ∈ p1, x.block < W.heap.size := by obtain ⟨m, hm⟩ := k1; exact DataW.trod_lt m _ _ _ hm
  obtain ⟨l1, w1⟩ : ∃ l, IsRow .u8 W a1 len1 cap1 l := by
    obtain ⟨fuel, hf⟩ := h1
    exact open_row Try.underlying22 Try.underlying5 (by kernel_rfl) (hval 1 22 _ rfl rfl) hf
  clear hA0 hval0
  refine (walkCodeLists a0 len0 cap0 l0 a1 len1 cap1 l1 W w0 g0 w1).mono fun e W' ⟨he, bel⟩ => ?_
  subst he
  exact ⟨_, rfl, _, _, _, [], _, [], hW', trodAll_mk1 (shut_bool Try.underlying4 _), (trodAll_cons_mk (Below.trod laidOutCodeLists (by kernel_rfl) (of_decide_eq_true (by kernel_rfl)) k0 bel lt0) (trodAll_cons_mk (Below.trod laidOutCodeLists (by kernel_rfl) (of_decide_eq_true (by kernel_rfl)) k1 bel lt1) trodAll_mk0)), rfl, bel.frame _, fun h => by cases h⟩

theorem overCodeLists : Rows.codeListsRow.holds Try.pinned (OpenSpec.ofChange Rows.codeListsSpec) :=
  OpenClaim.holds_of_wide 8 Try.f8 rfl rfl rfl rfl rfl rfl rfl ⟨rfl, rfl, rfl, rfl, rfl⟩ rfl rfl rfl rfl rfl (by kernel_rfl) Try.func8 (by kernel_rfl)
    (of_decide_eq_true (by kernel_rfl)) (by unfold Func.isWrapper; first | (rw [if_pos (by decide +kernel)]; kernel_rfl) | (rw [if_neg (by decide +kernel)]; exact ⟨rfl, rfl⟩))
    (fun os started H enc _ => liftedCodeLists os started H enc)

theorem codeListsProved : Rows.CodeListsSaid := overCodeLists
#print axioms codeListsProved
end Go.Proofs.Ytbefefoegbfamaa
