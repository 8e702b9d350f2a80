/- PROVED: MemNone returns true for every input of its types, and writes nothing that was there. Conditions: none beyond the row's own. -/
import Derived.Test.YtehloaopipkbjaaRows
import Derived.Test.YtehloaopipkbjaaWalk
import Derived.Test.YtehloaopipkbjaaSxC
import Derived.Lib.SmallJoins

namespace Go.Proofs.Ytehloaopipkbjaa
open Go Go.Sx Go.ChangeShapes Go.WideShapes Go.ChangeAt Go.RowKit Go.Proofs
set_option linter.unusedVariables false

theorem ownMemNone : ownKnob Try.prog.godebug = none := by kernel_rfl
theorem laidOutMemNone : laidOutB Try.prog = true := by kernel_rfl

theorem walkMemNone (x0_0 : Int) (x0_1 : Int) (x0_2 : Int) (x0_3 : Int) (x0_4 : Int) (s0_5 : Option Addr) (m0_5 c0_5 : Nat) (w : World) (h0_0 : (Lit.int .u8 x0_0).wf = true) (h0_1 : (Lit.int .i32 x0_1).wf = true) (h0_2 : (Lit.int .i32 x0_2).wf = true) (h0_3 : (Lit.int .i32 x0_3).wf = true) (h0_4 : (Lit.int .i64 x0_4).wf = true) (h0_5 : m0_5 ≤ c0_5) (hm0_5 : c0_5 ≤ maxLen) (hn0_5 : s0_5 = none → m0_5 = 0 ∧ c0_5 = 0) (hs0_5 : ∀ x, s0_5 = some x → x.spot = none) :
    Calls Try.prog 7 #[.agg #[.int .u8 x0_0, .int .i32 x0_1, .int .i32 x0_2, .int .i32 x0_3, .int .i64 x0_4, .slice s0_5 m0_5 c0_5]] w fun e w' => e = .returned (.bool true) ∧ Below w.heap.size w w' := by
  have h := law_con (MemNone_c x0_0 x0_1 x0_2 x0_3 x0_4 m0_5 c0_5 []) rfl (β := fun i => match i with | 0 => rowBd s0_5 | _ => ⟨0, 0, true⟩) (w := w) (fun i c hc => by
    match i, hc with
    | 0, hc => cases hc; exact fun j v hv => (by simp at hv)
    | i + 1, hc => simp at hc)
  simp only [List.map_cons, List.map_nil] at h
  simp only [TV.den, List.map_cons, List.map_nil, sl_den hn0_5 hs0_5 (β := fun i => match i with | 0 => rowBd s0_5 | _ => ⟨0, 0, true⟩) (i := 0) rfl] at h
  exact h

set_option maxRecDepth 100000 in
theorem liftedMemNone (os : Os) (started : os.Started) (H : Type) (enc : TypeId × Value → H) :
    ReturnsInHanded {} Try.checked os 7 .any (Rows.memNoneSpec.pre6 enc Try.prog Try.f7 Rows.memNoneRow.domain false) (Rows.memNoneSpec.post enc Try.prog Try.f7 false true false false) := by
  refine returnsInHanded_of_change (C := Try.checked) ownMemNone started (by kernel_rfl) Try.func7
    (ChangeSpec.witness6 (enc := enc) (C := Try.checked) false ⟨#[], #[.agg #[.int .u8 0, .int .i32 0, .int .i32 0, .int .i32 0, .int .i64 0, .slice none 0 0]], []⟩ 8 (by kernel_rfl) (by kernel_rfl) (by kernel_rfl) (by kernel_rfl)) ?_
  intro W base args ds gs before hval0 hW hcnd _
  have hval : ∀ (j : Nat) t v, Try.f7.params[j]? = some t → args[j]? = some v → Value.okWide Try.prog W .any base t v := hval0
  have hW' := hW
  obtain ⟨p, q, hA0, hV, rfl, hfz, hnd⟩ := hW
  have hA : DataW.TrodAll enc Try.prog W 0 (fun _ => true) true Try.f7.params.toList args.toList ds p := hA0
  rw [Try.params7] at hA hval
  obtain ⟨v0, vs0, d0, ds0, p0, q0, hargs, rfl, rfl, h0, r0⟩ := trodAll_cons hA
  obtain ⟨rfl, rfl, rfl⟩ := trodAll_nil r0
  obtain rfl : args = #[v0] := by cases args; simp_all
  obtain ⟨rfl, rfl⟩ := trodVars_none hV
  have k0 := h0
  have lt0 : ∀ x ∈ p0, x.block < W.heap.size := by obtain ⟨m, hm⟩ := k0; exact DataW.trod_lt m _ _ _ hm
  obtain ⟨x0_0, h0_0, x0_1, h0_1, x0_2, h0_2, x0_3, h0_3, x0_4, h0_4, s0_5, m0_5, c0_5, h0_5, hm0_5, hn0_5, hs0_5, rfl⟩ := open_flat (ks := [.int .u8, .int .i32, .int .i32, .int .i32, .int .i64, .sl]) Try.underlying51 (by kernel_rfl) (by kernel_rfl) rfl (hval 0 51 v0 rfl rfl)
  clear hA0 hval0
  refine (walkMemNone x0_0 x0_1 x0_2 x0_3 x0_4 s0_5 m0_5 c0_5 W h0_0 h0_1 h0_2 h0_3 h0_4 h0_5 hm0_5 hn0_5 hs0_5).mono fun e W' ⟨he, bel⟩ => ?_
  subst he
  exact ⟨_, rfl, _, _, _, [], _, [], hW', trodAll_mk1 (shut_bool Try.underlying4 _), (trodAll_cons_mk (Below.trod laidOutMemNone (by kernel_rfl) (of_decide_eq_true (by kernel_rfl)) k0 bel lt0) trodAll_mk0), rfl, bel.frame _, fun h => by cases h⟩

theorem overMemNone : Rows.memNoneRow.holds Try.pinned (OpenSpec.ofChange Rows.memNoneSpec) :=
  OpenClaim.holds_of_wide 7 Try.f7 rfl rfl rfl rfl rfl rfl rfl ⟨rfl, rfl, rfl, rfl, rfl⟩ rfl rfl rfl rfl rfl (by kernel_rfl) Try.func7 (by kernel_rfl)
    (of_decide_eq_true (by kernel_rfl)) (by unfold Func.isWrapper; first | (rw [if_pos (by decide +kernel)]; kernel_rfl) | (rw [if_neg (by decide +kernel)]; exact ⟨rfl, rfl⟩))
    (fun os started H enc _ => liftedMemNone os started H enc)

theorem memNoneProved : Rows.MemNoneSaid := overMemNone
#print axioms memNoneProved
end Go.Proofs.Ytehloaopipkbjaa
