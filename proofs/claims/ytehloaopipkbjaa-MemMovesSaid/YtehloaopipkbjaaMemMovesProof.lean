/- PROVED: MemMoves returns true for every input of its types, and writes nothing that was there. Conditions: none beyond the row's own. -/
import Derived.Test.YtehloaopipkbjaaRows
import Derived.Test.YtehloaopipkbjaaWalk
import Derived.Test.YtehloaopipkbjaaSxC
import Derived.Lib.SmallJoins

namespace Go.Proofs.Ytehloaopipkbjaa
open Go Go.Sx Go.ChangeShapes Go.WideShapes Go.ChangeAt Go.RowKit Go.Proofs
set_option linter.unusedVariables false

theorem ownMemMoves : ownKnob Try.prog.godebug = none := by kernel_rfl
theorem laidOutMemMoves : laidOutB Try.prog = true := by kernel_rfl

theorem walkMemMoves (a0 : Option Addr) (len0 cap0 : Nat) (l0 : List Int) (x1_0 : Int) (x1_1 : Int) (x1_2 : Int) (x1_3 : Int) (x1_4 : Int) (s1_5 : Option Addr) (m1_5 c1_5 : Nat) (w : World) (w0 : IsRow .u8 w a0 len0 cap0 l0) (h1_0 : (Lit.int .u8 x1_0).wf = true) (h1_1 : (Lit.int .i32 x1_1).wf = true) (h1_2 : (Lit.int .i32 x1_2).wf = true) (h1_3 : (Lit.int .i32 x1_3).wf = true) (h1_4 : (Lit.int .i64 x1_4).wf = true) (h1_5 : m1_5 ≤ c1_5) (hm1_5 : c1_5 ≤ maxLen) (hn1_5 : s1_5 = none → m1_5 = 0 ∧ c1_5 = 0) (hs1_5 : ∀ x, s1_5 = some x → x.spot = none) :
    Calls Try.prog 9 #[.slice a0 len0 cap0, .agg #[.int .u8 x1_0, .int .i32 x1_1, .int .i32 x1_2, .int .i32 x1_3, .int .i64 x1_4, .slice s1_5 m1_5 c1_5]] w fun e w' => e = .returned (.bool true) ∧ Below w.heap.size w w' := by
  have h := law_con (MemMoves_c l0 cap0 x1_0 x1_1 x1_2 x1_3 x1_4 m1_5 c1_5 [] (i32_fit h1_1) (i32_fit h1_2) (i32_fit h1_3)) rfl (β := fun i => match i with | 0 => rowBd a0 | 1 => rowBd s1_5 | _ => ⟨0, 0, true⟩) (w := w) (fun i c hc => by
    match i, hc with
    | 0, hc => cases hc; exact w0.sat _
    | 1, hc => cases hc; exact fun j v hv => (by simp at hv)
    | i + 2, hc => simp at hc)
  simp only [List.map_cons, List.map_nil] at h
  rw [w0.den rfl] at h
  simp only [TV.den, List.map_cons, List.map_nil, sl_den hn1_5 hs1_5 (β := fun i => match i with | 0 => rowBd a0 | 1 => rowBd s1_5 | _ => ⟨0, 0, true⟩) (i := 1) rfl] at h
  exact h

set_option maxRecDepth 100000 in
theorem liftedMemMoves (os : Os) (started : os.Started) (H : Type) (enc : TypeId × Value → H) :
    ReturnsInHanded {} Try.checked os 9 .any (Rows.memMovesSpec.pre6 enc Try.prog Try.f9 Rows.memMovesRow.domain false) (Rows.memMovesSpec.post enc Try.prog Try.f9 false true false false) := by
  refine returnsInHanded_of_change (C := Try.checked) ownMemMoves started (by kernel_rfl) Try.func9
    (ChangeSpec.witness6 (enc := enc) (C := Try.checked) false ⟨#[], #[.slice none 0 0, .agg #[.int .u8 0, .int .i32 0, .int .i32 0, .int .i32 0, .int .i64 0, .slice none 0 0]], []⟩ 8 (by kernel_rfl) (by kernel_rfl) (by kernel_rfl) (by kernel_rfl)) ?_
  intro W base args ds gs before hval0 hW hcnd _
  have hval : ∀ (j : Nat) t v, Try.f9.params[j]? = some t → args[j]? = some v → Value.okWide Try.prog W .any base t v := hval0
  have hW' := hW
  obtain ⟨p, q, hA0, hV, rfl, hfz, hnd⟩ := hW
  have hA : DataW.TrodAll enc Try.prog W 0 (fun _ => true) true Try.f9.params.toList args.toList ds p := hA0
  rw [Try.params9] at hA hval
  obtain ⟨v0, vs0, d0, ds0, p0, q0, hargs, rfl, rfl, h0, r0⟩ := trodAll_cons hA
  obtain ⟨v1, vs1, d1, ds1, p1, q1, rfl, rfl, rfl, h1, r1⟩ := trodAll_cons r0
  obtain ⟨rfl, rfl, rfl⟩ := trodAll_nil r1
  obtain rfl : args = #[v0, v1] := by cases args; simp_all
  obtain ⟨rfl, rfl⟩ := trodVars_none hV
  obtain ⟨a0, len0, cap0, rfl⟩ := okWide_slice Try.underlying28 (hval 0 28 v0 rfl rfl)
  have k0 := h0
  have lt0 : ∀ x ∈ p0, x.block < W.heap.size := by obtain ⟨m, hm⟩ := k0; exact DataW.trod_lt m _ _ _ hm
  obtain ⟨l0, w0⟩ : ∃ l, IsRow .u8 W a0 len0 cap0 l := by
    obtain ⟨fuel, hf⟩ := h0
    exact open_row Try.underlying28 Try.underlying5 (by kernel_rfl) (hval 0 28 _ rfl rfl) hf
  have k1 := h1
  have lt1 : ∀ x ∈ p1, x.block < W.heap.size := by obtain ⟨m, hm⟩ := k1; exact DataW.trod_lt m _ _ _ hm
  obtain ⟨x1_0, h1_0, x1_1, h1_1, x1_2, h1_2, x1_3, h1_3, x1_4, h1_4, s1_5, m1_5, c1_5, h1_5, hm1_5, hn1_5, hs1_5, rfl⟩ := open_flat (ks := [.int .u8, .int .i32, .int .i32, .int .i32, .int .i64, .sl]) Try.underlying51 (by kernel_rfl) (by kernel_rfl) rfl (hval 1 51 v1 rfl rfl)
  clear hA0 hval0
  refine (walkMemMoves a0 len0 cap0 l0 x1_0 x1_1 x1_2 x1_3 x1_4 s1_5 m1_5 c1_5 W w0 h1_0 h1_1 h1_2 h1_3 h1_4 h1_5 hm1_5 hn1_5 hs1_5).mono fun e W' ⟨he, bel⟩ => ?_
  subst he
  exact ⟨_, rfl, _, _, _, [], _, [], hW', trodAll_mk1 (shut_bool Try.underlying4 _), (trodAll_cons_mk (Below.trod laidOutMemMoves (by kernel_rfl) (of_decide_eq_true (by kernel_rfl)) k0 bel lt0) (trodAll_cons_mk (Below.trod laidOutMemMoves (by kernel_rfl) (of_decide_eq_true (by kernel_rfl)) k1 bel lt1) trodAll_mk0)), rfl, bel.frame _, fun h => by cases h⟩

theorem overMemMoves : Rows.memMovesRow.holds Try.pinned (OpenSpec.ofChange Rows.memMovesSpec) :=
  OpenClaim.holds_of_wide 9 Try.f9 rfl rfl rfl rfl rfl rfl rfl ⟨rfl, rfl, rfl, rfl, rfl⟩ rfl rfl rfl rfl rfl (by kernel_rfl) Try.func9 (by kernel_rfl)
    (of_decide_eq_true (by kernel_rfl)) (by unfold Func.isWrapper; first | (rw [if_pos (by decide +kernel)]; kernel_rfl) | (rw [if_neg (by decide +kernel)]; exact ⟨rfl, rfl⟩))
    (fun os started H enc _ => liftedMemMoves os started H enc)

theorem memMovesProved : Rows.MemMovesSaid := overMemMoves
#print axioms memMovesProved
end Go.Proofs.Ytehloaopipkbjaa
