/- PROVED: MemCopies returns true for every input of its types, and writes nothing that was there. Conditions: none beyond the row's own. -/
import Derived.Test.YtehloaopipkbjaaRows
import Derived.Test.YtehloaopipkbjaaWalkB
import Derived.Test.YtehloaopipkbjaaSxC
import Derived.Lib.SmallJoins

namespace Go.Proofs.Ytehloaopipkbjaa
open Go Go.Sx Go.ChangeShapes Go.WideShapes Go.ChangeAt Go.RowKit Go.Proofs
set_option linter.unusedVariables false

theorem ownMemCopies : ownKnob Try.prog.godebug = none := by kernel_rfl
theorem laidOutMemCopies : laidOutB Try.prog = true := by kernel_rfl

theorem walkMemCopies (a0 : Int) (a1 : Option Addr) (len1 cap1 : Nat) (l1 : List POp) (a2 : Option Addr) (len2 cap2 : Nat) (l2 : List POp) (w : World) (w0 : (Lit.int .i64 a0).wf = true) (w1 : IsTab 6 w a1 len1 cap1 (l1.map POp.vs)) (g1 : ∀ e ∈ l1, POp.ok e) (d1 : ∀ e ∈ l1, POp.deep w e) (w2 : IsTab 6 w a2 len2 cap2 (l2.map POp.vs)) (g2 : ∀ e ∈ l2, POp.ok e) (d2 : ∀ e ∈ l2, POp.deep w e) :
    Calls Try.prog 8 #[.int .i64 a0, .slice a1 len1 cap1, .slice a2 len2 cap2] w fun e w' => e = .returned (.bool true) ∧ Below w.heap.size w w' := by
  have h := law_con (MemCopies_c a0 l1 l2 cap1 cap2 g1 (by rw [show l1.length = len1 from by have := w1.hlen; simpa using this]; exact w1.hcap) w1.hmax g2 (by rw [show l2.length = len2 from by have := w2.hlen; simpa using this]; exact w2.hcap) w2.hmax) rfl (β := fun i => match i with | 0 => rowBd a1 | 1 => ⟨0, 0, true⟩ | 2 => rowBd a2 | 3 => ⟨0, 0, true⟩ | _ => ⟨0, 0, true⟩) (w := w) (fun i c hc => by
    match i, hc with
    | 0, hc => cases hc; exact w1.sat _
    | 1, hc => cases hc; exact deep_sat (opD_sat d1)
    | 2, hc => cases hc; exact w2.sat _
    | 3, hc => cases hc; exact deep_sat (opD_sat d2)
    | i + 4, hc => simp at hc)
  simp only [List.map_cons, List.map_nil] at h
  have wd1 := w1.den (β := fun i => match i with | 0 => rowBd a1 | 1 => ⟨0, 0, true⟩ | 2 => rowBd a2 | 3 => ⟨0, 0, true⟩ | _ => ⟨0, 0, true⟩) (i := 0) rfl
  rw [List.length_map] at wd1
  rw [wd1] at h
  have wd2 := w2.den (β := fun i => match i with | 0 => rowBd a1 | 1 => ⟨0, 0, true⟩ | 2 => rowBd a2 | 3 => ⟨0, 0, true⟩ | _ => ⟨0, 0, true⟩) (i := 2) rfl
  rw [List.length_map] at wd2
  rw [wd2] at h
  exact h

set_option maxRecDepth 100000 in
theorem liftedMemCopies (os : Os) (started : os.Started) (H : Type) (enc : TypeId × Value → H) :
    ReturnsInHanded {} Try.checked os 8 .any (Rows.memCopiesSpec.pre6 enc Try.prog Try.f8 Rows.memCopiesRow.domain false) (Rows.memCopiesSpec.post enc Try.prog Try.f8 false true false false) := by
  refine returnsInHanded_of_change (C := Try.checked) ownMemCopies started (by kernel_rfl) Try.func8
    (ChangeSpec.witness6 (enc := enc) (C := Try.checked) false ⟨#[], #[.int .i64 0, .slice none 0 0, .slice none 0 0], []⟩ 8 (by kernel_rfl) (by kernel_rfl) (by kernel_rfl) (by kernel_rfl)) ?_
  intro W base args ds gs before hval0 hW hcnd _
  have hval : ∀ (j : Nat) t v, Try.f8.params[j]? = some t → args[j]? = some v → Value.okWide Try.prog W .any base t v := hval0
  have hW' := hW
  obtain ⟨p, q, hA0, hV, rfl, hfz, hnd⟩ := hW
  have hA : DataW.TrodAll enc Try.prog W 0 (fun _ => true) true Try.f8.params.toList args.toList ds p := hA0
  rw [Try.params8] at hA hval
  obtain ⟨v0, vs0, d0, ds0, p0, q0, hargs, rfl, rfl, h0, r0⟩ := trodAll_cons hA
  obtain ⟨v1, vs1, d1, ds1, p1, q1, rfl, rfl, rfl, h1, r1⟩ := trodAll_cons r0
  obtain ⟨v2, vs2, d2, ds2, p2, q2, rfl, rfl, rfl, h2, r2⟩ := trodAll_cons r1
  obtain ⟨rfl, rfl, rfl⟩ := trodAll_nil r2
  obtain rfl : args = #[v0, v1, v2] := by cases args; simp_all
  obtain ⟨rfl, rfl⟩ := trodVars_none hV
  obtain ⟨a0, rfl, rfl, rfl, w0⟩ := open_int Try.underlying3 (hval 0 3 v0 rfl rfl) h0
  obtain ⟨a1, len1, cap1, rfl⟩ := okWide_slice Try.underlying45 (hval 1 45 v1 rfl rfl)
  have k1 := h1
  have lt1 : ∀ x ∈ p1, x.block < W.heap.size := by obtain ⟨m, hm⟩ := k1; exact DataW.trod_lt m _ _ _ hm
  obtain ⟨rows1, kk1, wt1⟩ : ∃ rows, (∀ q ∈ rows, ∃ vs b m c l, q = vs ++ [.slice b m c] ∧ KOK [.int .u8, .int .i32, .int .i32, .int .i32, .int .i64] vs ∧ IsRowN .u8 W b m c l) ∧ IsTab 6 W a1 len1 cap1 rows := by
    obtain ⟨fuel, hf⟩ := h1
    exact open_tabS Try.underlying45 Try.underlying51 Try.underlying28 Try.underlying5 (by kernel_rfl) ⟨rfl, by kernel_rfl, (by show Try.prog.underlying _ = some _; kernel_rfl), rfl, by kernel_rfl, (by show Try.prog.underlying _ = some _; kernel_rfl), rfl, by kernel_rfl, (by show Try.prog.underlying _ = some _; kernel_rfl), rfl, by kernel_rfl, (by show Try.prog.underlying _ = some _; kernel_rfl), rfl, by kernel_rfl, (by show Try.prog.underlying _ = some _; kernel_rfl), rfl, by kernel_rfl, rfl⟩ (by kernel_rfl) (hval 1 45 _ rfl rfl) hf
  obtain ⟨l1, rfl, gd1⟩ := rows_map (fun q hq => op_conv q (kk1 q hq))
  have w1 := wt1
  have g1 : ∀ e ∈ l1, POp.ok e := fun e he => (gd1 e he).1
  have d1 : ∀ e ∈ l1, POp.deep W e := fun e he => (gd1 e he).2
  obtain ⟨a2, len2, cap2, rfl⟩ := okWide_slice Try.underlying45 (hval 2 45 v2 rfl rfl)
  have k2 := h2
  have lt2 : ∀ x ∈ p2, x.block < W.heap.size := by obtain ⟨m, hm⟩ := k2; exact DataW.trod_lt m _ _ _ hm
  obtain ⟨rows2, kk2, wt2⟩ : ∃ rows, (∀ q ∈ rows, ∃ vs b m c l, q = vs ++ [.slice b m c] ∧ KOK [.int .u8, .int .i32, .int .i32, .int .i32, .int .i64] vs ∧ IsRowN .u8 W b m c l) ∧ IsTab 6 W a2 len2 cap2 rows := by
    obtain ⟨fuel, hf⟩ := h2
    exact open_tabS Try.underlying45 Try.underlying51 Try.underlying28 Try.underlying5 (by kernel_rfl) ⟨rfl, by kernel_rfl, (by show Try.prog.underlying _ = some _; kernel_rfl), rfl, by kernel_rfl, (by show Try.prog.underlying _ = some _; kernel_rfl), rfl, by kernel_rfl, (by show Try.prog.underlying _ = some _; kernel_rfl), rfl, by kernel_rfl, (by show Try.prog.underlying _ = some _; kernel_rfl), rfl, by kernel_rfl, (by show Try.prog.underlying _ = some _; kernel_rfl), rfl, by kernel_rfl, rfl⟩ (by kernel_rfl) (hval 2 45 _ rfl rfl) hf
  obtain ⟨l2, rfl, gd2⟩ := rows_map (fun q hq => op_conv q (kk2 q hq))
  have w2 := wt2
  have g2 : ∀ e ∈ l2, POp.ok e := fun e he => (gd2 e he).1
  have d2 : ∀ e ∈ l2, POp.deep W e := fun e he => (gd2 e he).2
  clear hA0 hval0
  refine (walkMemCopies a0 a1 len1 cap1 l1 a2 len2 cap2 l2 W w0 w1 g1 d1 w2 g2 d2).mono fun e W' ⟨he, bel⟩ => ?_
  subst he
  exact ⟨_, rfl, _, _, _, [], _, [], hW', trodAll_mk1 (shut_bool Try.underlying4 _), (trodAll_cons_mk (shut_int Try.underlying3 w0) (trodAll_cons_mk (Below.trod laidOutMemCopies (by kernel_rfl) (of_decide_eq_true (by kernel_rfl)) k1 bel lt1) (trodAll_cons_mk (Below.trod laidOutMemCopies (by kernel_rfl) (of_decide_eq_true (by kernel_rfl)) k2 bel lt2) trodAll_mk0))), rfl, bel.frame _, fun h => by cases h⟩

theorem overMemCopies : Rows.memCopiesRow.holds Try.pinned (OpenSpec.ofChange Rows.memCopiesSpec) :=
  OpenClaim.holds_of_wide 8 Try.f8 rfl rfl rfl rfl rfl rfl rfl ⟨rfl, rfl, rfl, rfl, rfl⟩ rfl rfl rfl rfl rfl (by kernel_rfl) Try.func8 (by kernel_rfl)
    (of_decide_eq_true (by kernel_rfl)) (by unfold Func.isWrapper; first | (rw [if_pos (by decide +kernel)]; kernel_rfl) | (rw [if_neg (by decide +kernel)]; exact ⟨rfl, rfl⟩))
    (fun os started H enc _ => liftedMemCopies os started H enc)

theorem memCopiesProved : Rows.MemCopiesSaid := overMemCopies
#print axioms memCopiesProved
end Go.Proofs.Ytehloaopipkbjaa
