/- Insert: its function, try with it. -/
import Derived.Test.YtcjaggapamngmaaWalkF

namespace Go.Proofs
open Go Go.Sx
set_option maxRecDepth 10000
/-- The chunks of a function that try is given: the tape, four variables, the memory, the row, the bytes. -/
abbrev q4 (a b c d : Ch) (T : List (Int × Int)) (cap : Nat) (m : Ram) : List Ch := [.blk 115 [.loc 5 0, .sl 6 0 T.length cap], a, b, c, d, .blk 33 [.sl 7 0 m.l.length m.l.length], tR cap T, mOwn m.l]
abbrev q4o (a b c d : Ch) (T : List (Int × Int)) (cap : Nat) (m : Ram) : List Ch := [.blk 115 [.loc 5 0, .sl 8 0 T.length cap], a, b, c, d, .blk 33 [.sl 7 0 m.l.length m.l.length], .dead, mOwn m.l, tR cap T]
def oI4 (n : Nat) (T : List (Int × Int)) (m : Ram) (a b c d : Ch) : Option (Core × Ram) → Out
  | some r => .all (List (Int × Int) × Nat) (fun x => x.1.length ≤ x.2) fun x => .ret (.t (.agg r.1.sv)) (q4o a b c d x.1 x.2 r.2)
  | none => .all (List (Int × Int) × Nat × Ram) (fun x => Tp n T m x.1 x.2.2 ∧ x.1.length ≤ x.2.1) fun x => .ret pan (q4o a b c d x.1 x.2.1 x.2.2)
theorem Insert1_c (T : List (Int × Int)) (m : Ram) (cap : Nat) (k : Core) (w at' p : Int) (hok : k.ok) (hw : I32 w) (hp : p = 0 ∨ p = 1) (hT : T.length ≤ 19970) (hc : T.length ≤ cap) :
    ConX Try.prog chT f_timer_Insert_1 [.s (.loc 0 0), .s (.loc 1 0), .s (.loc 2 0), .s (.loc 3 0), .s (.loc 4 0)] (q4 (.blk 26 k.sv) (.blk 21 [.int .i32 w]) (.blk 21 [.int .i32 at']) (.blk 3 [.int .i64 p]) T cap m)
    (oI4 3 T m (.blk 26 k.sv) (.blk 21 [.int .i32 w]) (.blk 21 [.int .i32 at']) (.blk 3 [.int .i64 p]) (insR k m w at' p)) := by
  intro K hK
  refine enterX fn_timer_Insert_1 rfl nt_timer_Insert_1 rfl rfl (fun φ w0 β0 F => ?_)
  refine c_run tt_ok (ct := []) trivial k_timer_Insert_1 [12] 60 (by kernel_rfl) ?_
  show WpL _ _ _ _ _ _
  rcases hI : insR k m w at' p with _ | ⟨k', m'⟩
  · rw [hI] at hK
    refine l_callX xIns cal_timer_tape_insert rfl rfl rfl trivial rfl rfl rfl rfl rfl ?_
    refine ⟨(T, m, none), ⟨rfl, rfl, rfl, rfl, rfl, rfl, rfl, ⟨hok, hw, hp, by dsimp only; omega, hc⟩, hI⟩, fun x hx => ?_⟩
    refine e_run tt_ok (ct := []) trivial k_timer_Insert_1 [] 60 (by kernel_rfl) ?_
    exact fin_pan (hK x hx) [0, 1, 2, 3, 4, 5, 6, 7, 9] rfl rfl rfl rfl
  · rw [hI] at hK
    refine l_callX xIns cal_timer_tape_insert rfl rfl rfl trivial rfl rfl rfl rfl rfl ?_
    refine ⟨(T, m, some (k', m')), ⟨rfl, rfl, rfl, rfl, rfl, rfl, rfl, ⟨hok, hw, hp, by dsimp only; omega, hc⟩, hI⟩, fun x hx => ?_⟩
    refine l_run tt_ok (ct := []) trivial k_timer_Insert_1 [] 60 (by kernel_rfl) (by kernel_rfl) ?_
    exact fin_kX tt_ok (rs := rs_timer_Insert_1) rfl rfl (hK x hx.2) [0, 1, 2, 3, 4, 5, 6, 7, 9] rfl rfl rfl rfl rfl rfl rfl
noncomputable abbrev xI1 : XI f_timer_Insert_1 := fun cargs σ0 => match cargs, σ0 with
  | [.s (.loc 0 0), .s (.loc 1 0), .s (.loc 2 0), .s (.loc 3 0), .s (.loc 4 0)], [.blk 115 [.loc 5 0, .sl 6 0 n cap], .blk 26 cs, .blk 21 [.int .i32 w], .blk 21 [.int .i32 at'], .blk 3 [.int .i64 p], .blk 33 [.sl 7 0 k k'], .own 22 2 cap' ys, .own 5 1 c xs] => withCore cs fun q hq =>
    some ⟨.ex (List (Int × Int) × Ram × Option (Core × Ram)) fun y => .ask (n = y.1.length ∧ cap' = cap ∧ ys = tapV y.1 ∧ k = y.2.1.l.length ∧ k' = y.2.1.l.length ∧ c = y.2.1.l.length ∧ xs = bytesI y.2.1.l ∧ (q.ok ∧ I32 w ∧ (p = 0 ∨ p = 1) ∧ y.1.length ≤ 19970 ∧ y.1.length ≤ cap) ∧ insR q y.2.1 w at' p = y.2.2)
      (oI4 3 y.1 y.2.1 (.blk 26 cs) (.blk 21 [.int .i32 w]) (.blk 21 [.int .i32 at']) (.blk 3 [.int .i64 p]) y.2.2), fun K h => by
      obtain ⟨⟨T, m, r⟩, ⟨e1, e2, e3, e4, e5, e6, e7, ⟨e8, e9, e10, e11, e12⟩, e13⟩, h⟩ := h
      dsimp only at e1 e2 e3 e4 e5 e6 e7 e8 e9 e10 e11 e12 e13 h
      subst e1; subst e2; subst e3; subst e4; subst e5; subst e6; subst e7; subst hq; subst e13
      exact Insert1_c T m _ q w at' p e8 e9 e10 e11 e12 K h⟩
  | _, _ => none
/-- What try returns. -/
def tryR (m : Ram) : Option (Core × Ram) → Core × Int × Ram
  | some r => (r.1, 0, r.2)
  | none => (.zero, 4, m)
theorem try1_L {C : Core} {E : Int} {n : Nat} {T : List (Int × Int)} {cap : Nat} {m m' : Ram} {σ : List Ch} {args : List TV} (sel : List Nat) (hn : n ≤ 20000) (h : Tp n [] m T m') (hnd : sel.Nodup)
    (hp : pickL σ sel = some ((tryS C.sv E T cap m').map (Ch.rn (rnk sel σ.length)))) (hargs : args = ([.s (.loc 0 0), .s (.loc 1 0), .s (.loc 2 0), .s (.loc 3 0)] : List TV).map (TV.rn (rnk sel σ.length))) :
    TriD Try.prog f_timer_try_1 args (.panicking chT) (.panicking chR) σ (fun τ => τ = merged σ sel (tryS Core.zero.sv 4 T cap m)) := by
  have hw : allB (Ch.wfB 8) (tryS C.sv E T cap m') = true := rfl
  refine TriD.lift hnd hp (fun c hc => Ch.wfB_spec (allB_spec hw c hc)) hargs ?_
  have hb : undT T m' = m := h.back
  have := try1_D C E T cap m' (by have := h.len; simp only [List.length_nil] at this; omega) (h.ok (fun x hx => absurd hx (by simp)))
  rw [hb] at this
  exact ⟨fun β φ w hs => (this.h β φ w hs).mono fun e v w' ⟨h1, h2, τ, β', hk, h3⟩ => ⟨h1, h2, τ, β', by rw [hk], h3⟩⟩
theorem tryI_c (m : Ram) (k : Core) (w at' p : Int) (hok : k.ok) (hw : I32 w) (hp : p = 0 ∨ p = 1) :
    Con Try.prog f_timer_try [.s (.loc 0 0), .clo (.func 37) [] [.loc 1 0, .loc 2 0, .loc 3 0, .loc 4 0]] [.blk 33 [.sl 5 0 m.l.length m.l.length], .blk 26 k.sv, .blk 21 [.int .i32 w], .blk 21 [.int .i32 at'], .blk 3 [.int .i64 p], mOwn m.l]
    (.ret (.tup [.agg (tryR m (insR k m w at' p)).1.sv, .s (.int .i64 (tryR m (insR k m w at' p)).2.1)]) [.blk 33 [.sl 5 0 (tryR m (insR k m w at' p)).2.2.l.length (tryR m (insR k m w at' p)).2.2.l.length], .blk 26 k.sv, .blk 21 [.int .i32 w], .blk 21 [.int .i32 at'], .blk 3 [.int .i64 p], mOwn (tryR m (insR k m w at' p)).2.2.l]) := by
  intro K hK
  refine enterDf fn_timer_try rfl nt_timer_try rfl rfl (fun φ w0 β0 F => ?_)
  refine c_run tt_ok (ct := []) trivial k_timer_try [13] 60 (by kernel_rfl) ?_
  show WpL _ _ _ _ _ _
  refine WpL.into (nilCell2 9 22 2 rfl) ?_
  refine l_defer rfl rfl rfl rfl rfl trivial rfl rfl (fun D hD => ?_)
  refine l_run tt_ok (ct := []) trivial k_timer_try [13] 60 (by kernel_rfl) (by kernel_rfl) ?_
  show WpL _ _ _ _ _ _
  rcases hI : insR k m w at' p with _ | ⟨k', m'⟩
  · rw [hI] at hK
    refine l_callX xI1 cal_timer_Insert_1 rfl rfl rfl trivial rfl rfl rfl rfl rfl ?_
    refine ⟨([], m, none), ⟨rfl, rfl, rfl, rfl, rfl, rfl, rfl, ⟨hok, hw, hp, Nat.zero_le _, Nat.zero_le _⟩, hI⟩, fun x hx => ?_⟩
    refine e_run tt_ok (ct := []) trivial k_timer_try [] 60 (by kernel_rfl) ?_
    refine door (.panicking chR) hD rfl cal_timer_try_1 (.inr ⟨chT, rfl, rfl⟩) rfl (try1_L (C := .zero) (E := 0) [10, 6, 7, 8, 9, 0, 12, 5] (by decide) hx.1 (by decide) rfl rfl) (fun τ hτ => ?_)
    subst hτ
    exact fin_k tt_ok (rs := rs_timer_try) rfl rfl hK [0, 1, 2, 3, 4, 5] rfl rfl rfl rfl rfl rfl
  · rw [hI] at hK
    refine l_callX xI1 cal_timer_Insert_1 rfl rfl rfl trivial rfl rfl rfl rfl rfl ?_
    refine ⟨([], m, some (k', m')), ⟨rfl, rfl, rfl, rfl, rfl, rfl, rfl, ⟨hok, hw, hp, Nat.zero_le _, Nat.zero_le _⟩, hI⟩, fun x hx => ?_⟩
    refine l_run tt_ok (ct := []) trivial k_timer_try [] 60 (by kernel_rfl) (by kernel_rfl) ?_
    refine door .returning hD rfl cal_timer_try_1 (.inl ⟨rfl, .inl rfl⟩) rfl (try1_D0 _ _ _ _ _) (fun τ hτ => ?_)
    subst hτ
    exact fin_k tt_ok (rs := rs_timer_try) rfl rfl hK [0, 1, 2, 3, 4, 5] rfl rfl rfl rfl rfl rfl
noncomputable abbrev eTryI : Ent := .st (conS (P := Try.prog) (f := f_timer_try) fun cargs σ0 => match cargs, σ0 with
  | [.s (.loc 0 0), .clo (.func 37) [] [.loc 1 0, .loc 2 0, .loc 3 0, .loc 4 0]], [.blk 33 [.sl 5 0 n n'], .blk 26 cs, .blk 21 [.int .i32 w], .blk 21 [.int .i32 at'], .blk 3 [.int .i64 p], .own 5 1 c xs] => withCore cs fun q hq =>
    some ⟨.ex (Ram × Core × Int × Ram) fun y => .ask (n = y.1.l.length ∧ n' = y.1.l.length ∧ c = y.1.l.length ∧ xs = bytesI y.1.l ∧ (q.ok ∧ I32 w ∧ (p = 0 ∨ p = 1)) ∧ tryR y.1 (insR q y.1 w at' p) = y.2)
      (.ret (.tup [.agg y.2.1.sv, .s (.int .i64 y.2.2.1)]) [.blk 33 [.sl 5 0 y.2.2.2.l.length y.2.2.2.l.length], .blk 26 cs, .blk 21 [.int .i32 w], .blk 21 [.int .i32 at'], .blk 3 [.int .i64 p], mOwn y.2.2.2.l]), fun K h => by
      obtain ⟨⟨m, r⟩, ⟨e1, e2, e3, e4, ⟨e5, e6, e7⟩, e8⟩, h⟩ := h
      dsimp only at e1 e2 e3 e4 e8 h
      subst e1; subst e2; subst e3; subst e4; subst hq; subst e8
      exact tryI_c m q w at' p e5 e6 e7 K h⟩
  | _, _ => none)
def tinR (k : Core) (m : Ram) (w at' p : Int) : Core × Int × Ram := bif !priB p then (.zero, 2, m) else tryR m (insR k m w at' p)
theorem priB_iff {p : Int} (h : priB p = true) : p = 0 ∨ p = 1 := by unfold priB at h; simpa using h
noncomputable abbrev ctIn : CT := [(f_timer_check, eCheck), (f_timer_try, eTryI)]
theorem ctIn_ok : CTok Try.prog ctIn := ⟨con_ok cal_timer_check _, con_ok cal_timer_try _, trivial⟩
theorem tInsert_c (k : Core) (m : Ram) (w at' p : Int) (hok : k.ok) (hw : I32 w) (hp : -9223372036854775808 ≤ p ∧ p ≤ 9223372036854775807) :
    Con Try.prog f_timer_Insert [.agg k.sv, .s (.loc 0 0), .s (.int .i32 w), .s (.int .i32 at'), .s (.int .i64 p)] [mBox m.l.length, mOwn m.l]
    (.ret (.tup [.agg (tinR k m w at' p).1.sv, .s (.int .i64 (tinR k m w at' p).2.1)]) [mBox (tinR k m w at' p).2.2.l.length, mOwn (tinR k m w at' p).2.2.l]) := by
  intro K hK
  obtain ⟨⟨k', e, m'⟩, hR⟩ : ∃ R, tinR k m w at' p = R := ⟨_, rfl⟩
  rw [hR] at hK
  unfold tinR at hR
  refine enter fn_timer_Insert rfl nt_timer_Insert rfl rfl (fun φ w0 β0 F => ?_)
  refine c_run tt_ok ctIn_ok k_timer_Insert [] 60 (by kernel_rfl) ?_
  refine ⟨m, ⟨rfl, rfl, rfl, rfl, hp⟩, ?_⟩
  rcases hpb : priB p with _ | _
  · rw [hpb] at hR
    cases hR
    refine ⟨fun _ => ?_, fun h => absurd h (by decide)⟩
    exact fin_k tt_ok (rs := rs_timer_Insert) rfl rfl hK [0, 1] rfl rfl rfl rfl rfl rfl
  · rw [hpb] at hR
    refine ⟨fun h => absurd h (by decide), fun _ => ?_⟩
    refine ⟨(m, k', e, m'), ⟨rfl, rfl, rfl, rfl, ⟨hok, hw, priB_iff hpb⟩, hR⟩, ?_⟩
    exact fin_k tt_ok (rs := rs_timer_Insert) rfl rfl hK [0, 1] rfl rfl rfl rfl rfl rfl
noncomputable abbrev eInsert : Ent := .st (conS (P := Try.prog) (f := f_timer_Insert) fun cargs σ0 => match cargs, σ0 with
  | [.agg cs, .s (.loc 0 0), .s (.int .i32 w), .s (.int .i32 at'), .s (.int .i64 p)], [.blk 33 [.sl 1 0 n n'], .own 5 1 c xs] => withCore cs fun q hq => some ⟨.ex (Ram × Core × Int × Ram) fun y => .ask (n = y.1.l.length ∧ n' = y.1.l.length ∧ c = y.1.l.length ∧ xs = bytesI y.1.l ∧ (q.ok ∧ I32 w ∧ -9223372036854775808 ≤ p ∧ p ≤ 9223372036854775807) ∧ tinR q y.1 w at' p = y.2)
      (.ret (.tup [.agg y.2.1.sv, .s (.int .i64 y.2.2.1)]) [mBox y.2.2.2.l.length, mOwn y.2.2.2.l]), fun K h => by
      obtain ⟨⟨m, r⟩, ⟨e1, e2, e3, e4, h1, h2⟩, h⟩ := h
      dsimp only at e1 e2 e3 e4 h2 h
      subst e1; subst e2; subst e3; subst e4; subst hq
      refine tInsert_c q m w at' p h1.1 h1.2.1 h1.2.2 K ?_
      rw [h2]; exact h⟩
  | _, _ => none)
end Go.Proofs

namespace Go.Proofs
open Go Go.Sx
set_option maxRecDepth 10000
abbrev q2 (a b : Ch) (T : List (Int × Int)) (cap : Nat) (m : Ram) : List Ch := [.blk 115 [.loc 3 0, .sl 4 0 T.length cap], a, b, .blk 33 [.sl 5 0 m.l.length m.l.length], tR cap T, mOwn m.l]
abbrev q2o (a b : Ch) (T : List (Int × Int)) (cap : Nat) (m : Ram) : List Ch := [.blk 115 [.loc 3 0, .sl 6 0 T.length cap], a, b, .blk 33 [.sl 5 0 m.l.length m.l.length], .dead, mOwn m.l, tR cap T]
def oI2 (n : Nat) (T : List (Int × Int)) (m : Ram) (a b : Ch) : Option (Core × Ram) → Out
  | some r => .all (List (Int × Int) × Nat) (fun x => x.1.length ≤ x.2) fun x => .ret (.t (.agg r.1.sv)) (q2o a b x.1 x.2 r.2)
  | none => .all (List (Int × Int) × Nat × Ram) (fun x => Tp n T m x.1 x.2.2 ∧ x.1.length ≤ x.2.1) fun x => .ret pan (q2o a b x.1 x.2.1 x.2.2)
theorem Exec1_c (T : List (Int × Int)) (m : Ram) (cap : Nat) (k : Core) (f n : Int) (hok : k.ok) (hp : k.pri = 0 ∨ k.pri = 1) (hT : T.length ≤ 19970) (hc : T.length ≤ cap) :
    ConX Try.prog chT f_timer_Exec_1 [.s (.loc 0 0), .s (.loc 1 0), .s (.loc 2 0)] (q2 (.blk 26 k.sv) (.blk 28 [.int .u8 f, .int .i32 n]) T cap m)
    (oI2 5 T m (.blk 26 k.sv) (.blk 28 [.int .u8 f, .int .i32 n]) (excR k m n)) := by
  intro K hK
  refine enterX fn_timer_Exec_1 rfl nt_timer_Exec_1 rfl rfl (fun φ w0 β0 F => ?_)
  refine c_run tt_ok (ct := []) trivial k_timer_Exec_1 [9] 60 (by kernel_rfl) ?_
  show WpL _ _ _ _ _ _
  rcases hI : excR k m n with _ | ⟨k', m'⟩
  · rw [hI] at hK
    refine l_callX xExc cal_timer_tape_exec rfl rfl rfl trivial rfl rfl rfl rfl rfl ?_
    refine ⟨(T, m, none), ⟨rfl, rfl, rfl, rfl, rfl, rfl, rfl, ⟨hok, hp, hT, hc⟩, hI⟩, fun x hx => ?_⟩
    refine e_run tt_ok (ct := []) trivial k_timer_Exec_1 [] 60 (by kernel_rfl) ?_
    exact fin_pan (hK x hx) [0, 1, 2, 3, 4, 5, 7] rfl rfl rfl rfl
  · rw [hI] at hK
    refine l_callX xExc cal_timer_tape_exec rfl rfl rfl trivial rfl rfl rfl rfl rfl ?_
    refine ⟨(T, m, some (k', m')), ⟨rfl, rfl, rfl, rfl, rfl, rfl, rfl, ⟨hok, hp, hT, hc⟩, hI⟩, fun x hx => ?_⟩
    refine l_run tt_ok (ct := []) trivial k_timer_Exec_1 [] 60 (by kernel_rfl) (by kernel_rfl) ?_
    exact fin_kX tt_ok (rs := rs_timer_Exec_1) rfl rfl (hK x hx) [0, 1, 2, 3, 4, 5, 7] rfl rfl rfl rfl rfl rfl rfl
noncomputable abbrev xE1 : XI f_timer_Exec_1 := fun cargs σ0 => match cargs, σ0 with
  | [.s (.loc 0 0), .s (.loc 1 0), .s (.loc 2 0)], [.blk 115 [.loc 3 0, .sl 4 0 n cap], .blk 26 cs, .blk 28 [.int .u8 f, .int .i32 v], .blk 33 [.sl 5 0 k k'], .own 22 2 cap' ys, .own 5 1 c xs] => withCore cs fun q hq =>
    some ⟨.ex (List (Int × Int) × Ram × Option (Core × Ram)) fun y => .ask (n = y.1.length ∧ cap' = cap ∧ ys = tapV y.1 ∧ k = y.2.1.l.length ∧ k' = y.2.1.l.length ∧ c = y.2.1.l.length ∧ xs = bytesI y.2.1.l ∧ (q.ok ∧ (q.pri = 0 ∨ q.pri = 1) ∧ y.1.length ≤ 19970 ∧ y.1.length ≤ cap) ∧ excR q y.2.1 v = y.2.2)
      (oI2 5 y.1 y.2.1 (.blk 26 cs) (.blk 28 [.int .u8 f, .int .i32 v]) y.2.2), fun K h => by
      obtain ⟨⟨T, m, r⟩, ⟨e1, e2, e3, e4, e5, e6, e7, ⟨e8, e10, e11, e12⟩, e13⟩, h⟩ := h
      dsimp only at e1 e2 e3 e4 e5 e6 e7 e8 e10 e11 e12 e13 h
      subst e1; subst e2; subst e3; subst e4; subst e5; subst e6; subst e7; subst hq; subst e13
      exact Exec1_c T m _ q f v e8 e10 e11 e12 K h⟩
  | _, _ => none
theorem tryE_c (m : Ram) (k : Core) (f n : Int) (hok : k.ok) (hp : k.pri = 0 ∨ k.pri = 1) :
    Con Try.prog f_timer_try [.s (.loc 0 0), .clo (.func 47) [] [.loc 1 0, .loc 2 0]] [.blk 33 [.sl 3 0 m.l.length m.l.length], .blk 26 k.sv, .blk 28 [.int .u8 f, .int .i32 n], mOwn m.l]
    (.ret (.tup [.agg (tryR m (excR k m n)).1.sv, .s (.int .i64 (tryR m (excR k m n)).2.1)]) [.blk 33 [.sl 3 0 (tryR m (excR k m n)).2.2.l.length (tryR m (excR k m n)).2.2.l.length], .blk 26 k.sv, .blk 28 [.int .u8 f, .int .i32 n], mOwn (tryR m (excR k m n)).2.2.l]) := by
  intro K hK
  refine enterDf fn_timer_try rfl nt_timer_try rfl rfl (fun φ w0 β0 F => ?_)
  refine c_run tt_ok (ct := []) trivial k_timer_try [13] 60 (by kernel_rfl) ?_
  show WpL _ _ _ _ _ _
  refine WpL.into (nilCell2 7 22 2 rfl) ?_
  refine l_defer rfl rfl rfl rfl rfl trivial rfl rfl (fun D hD => ?_)
  refine l_run tt_ok (ct := []) trivial k_timer_try [13] 60 (by kernel_rfl) (by kernel_rfl) ?_
  show WpL _ _ _ _ _ _
  rcases hI : excR k m n with _ | ⟨k', m'⟩
  · rw [hI] at hK
    refine l_callX xE1 cal_timer_Exec_1 rfl rfl rfl trivial rfl rfl rfl rfl rfl ?_
    refine ⟨([], m, none), ⟨rfl, rfl, rfl, rfl, rfl, rfl, rfl, ⟨hok, hp, Nat.zero_le _, Nat.zero_le _⟩, hI⟩, fun x hx => ?_⟩
    refine e_run tt_ok (ct := []) trivial k_timer_try [] 60 (by kernel_rfl) ?_
    refine door (.panicking chR) hD rfl cal_timer_try_1 (.inr ⟨chT, rfl, rfl⟩) rfl (try1_L (C := .zero) (E := 0) [8, 4, 5, 6, 7, 0, 10, 3] (by decide) hx.1 (by decide) rfl rfl) (fun τ hτ => ?_)
    subst hτ
    exact fin_k tt_ok (rs := rs_timer_try) rfl rfl hK [0, 1, 2, 3] rfl rfl rfl rfl rfl rfl
  · rw [hI] at hK
    refine l_callX xE1 cal_timer_Exec_1 rfl rfl rfl trivial rfl rfl rfl rfl rfl ?_
    refine ⟨([], m, some (k', m')), ⟨rfl, rfl, rfl, rfl, rfl, rfl, rfl, ⟨hok, hp, Nat.zero_le _, Nat.zero_le _⟩, hI⟩, fun x hx => ?_⟩
    refine l_run tt_ok (ct := []) trivial k_timer_try [] 60 (by kernel_rfl) (by kernel_rfl) ?_
    refine door .returning hD rfl cal_timer_try_1 (.inl ⟨rfl, .inl rfl⟩) rfl (try1_D0 _ _ _ _ _) (fun τ hτ => ?_)
    subst hτ
    exact fin_k tt_ok (rs := rs_timer_try) rfl rfl hK [0, 1, 2, 3] rfl rfl rfl rfl rfl rfl
noncomputable abbrev eTryE : Ent := .st (conS (P := Try.prog) (f := f_timer_try) fun cargs σ0 => match cargs, σ0 with
  | [.s (.loc 0 0), .clo (.func 47) [] [.loc 1 0, .loc 2 0]], [.blk 33 [.sl 3 0 n n'], .blk 26 cs, .blk 28 [.int .u8 f, .int .i32 v], .own 5 1 c xs] => withCore cs fun q hq =>
    some ⟨.ex (Ram × Core × Int × Ram) fun y => .ask (n = y.1.l.length ∧ n' = y.1.l.length ∧ c = y.1.l.length ∧ xs = bytesI y.1.l ∧ (q.ok ∧ (q.pri = 0 ∨ q.pri = 1)) ∧ tryR y.1 (excR q y.1 v) = y.2)
      (.ret (.tup [.agg y.2.1.sv, .s (.int .i64 y.2.2.1)]) [.blk 33 [.sl 3 0 y.2.2.2.l.length y.2.2.2.l.length], .blk 26 cs, .blk 28 [.int .u8 f, .int .i32 v], mOwn y.2.2.2.l]), fun K h => by
      obtain ⟨⟨m, r⟩, ⟨e1, e2, e3, e4, ⟨e5, e6⟩, e8⟩, h⟩ := h
      dsimp only at e1 e2 e3 e4 e8 h
      subst e1; subst e2; subst e3; subst e4; subst hq; subst e8
      exact tryE_c m q f v e5 e6 K h⟩
  | _, _ => none)
def mineT (f n : Int) : Bool := bif f != 15 then false else bif n == 34 then true else bif n == 84 then true else bif n == 43 then true else bif n == 78 then true else bif n == 81 then true else bif n == 71 then true else n == 46
theorem Mine_c (f n : Int) : Con Try.prog f_timer_Mine [.agg [.int .u8 f, .int .i32 n]] [] (.ret (.t (.s (.bool (mineT f n)))) []) := by
  intro K hK
  unfold mineT at hK
  refine enter fn_timer_Mine rfl nt_timer_Mine rfl rfl (fun φ w0 β0 F => ?_)
  refine c_run tt_ok (ct := []) trivial k_timer_Mine [] 60 (by kernel_rfl) ?_
  refine ⟨fun h0 => ?_, fun h0 => ?_⟩
  · rw [show (f != 15) = true from h0, cond_true] at hK
    exact fin_k tt_ok (rs := rs_timer_Mine) rfl rfl hK [] rfl rfl rfl rfl rfl rfl
  rw [show (f != 15) = false from h0, cond_false] at hK
  refine ⟨fun h1 => ⟨fun _ => ?_, fun h' => absurd (h1.symm.trans h') (by decide)⟩, fun h1 => ?_⟩
  · rw [show (n == 34) = true from h1, cond_true] at hK
    exact fin_k tt_ok (rs := rs_timer_Mine) rfl rfl hK [] rfl rfl rfl rfl rfl rfl
  rw [show (n == 34) = false from h1, cond_false] at hK
  refine ⟨fun h2 => ⟨fun _ => ?_, fun h' => absurd (h2.symm.trans h') (by decide)⟩, fun h2 => ?_⟩
  · rw [show (n == 84) = true from h2, cond_true] at hK
    exact fin_k tt_ok (rs := rs_timer_Mine) rfl rfl hK [] rfl rfl rfl rfl rfl rfl
  rw [show (n == 84) = false from h2, cond_false] at hK
  refine ⟨fun h3 => ⟨fun _ => ?_, fun h' => absurd (h3.symm.trans h') (by decide)⟩, fun h3 => ?_⟩
  · rw [show (n == 43) = true from h3, cond_true] at hK
    exact fin_k tt_ok (rs := rs_timer_Mine) rfl rfl hK [] rfl rfl rfl rfl rfl rfl
  rw [show (n == 43) = false from h3, cond_false] at hK
  refine ⟨fun h4 => ⟨fun _ => ?_, fun h' => absurd (h4.symm.trans h') (by decide)⟩, fun h4 => ?_⟩
  · rw [show (n == 78) = true from h4, cond_true] at hK
    exact fin_k tt_ok (rs := rs_timer_Mine) rfl rfl hK [] rfl rfl rfl rfl rfl rfl
  rw [show (n == 78) = false from h4, cond_false] at hK
  refine ⟨fun h5 => ⟨fun _ => ?_, fun h' => absurd (h5.symm.trans h') (by decide)⟩, fun h5 => ?_⟩
  · rw [show (n == 81) = true from h5, cond_true] at hK
    exact fin_k tt_ok (rs := rs_timer_Mine) rfl rfl hK [] rfl rfl rfl rfl rfl rfl
  rw [show (n == 81) = false from h5, cond_false] at hK
  refine ⟨fun h6 => ⟨fun _ => ?_, fun h' => absurd (h6.symm.trans h') (by decide)⟩, fun h6 => ?_⟩
  · rw [show (n == 71) = true from h6, cond_true] at hK
    exact fin_k tt_ok (rs := rs_timer_Mine) rfl rfl hK [] rfl rfl rfl rfl rfl rfl
  rw [show (n == 71) = false from h6, cond_false] at hK
  refine ⟨fun h7 => ?_, fun h7 => ?_⟩
  · rw [show (n == 46) = true from h7] at hK
    exact fin_k tt_ok (rs := rs_timer_Mine) rfl rfl hK [] rfl rfl rfl rfl rfl rfl
  · rw [show (n == 46) = false from h7] at hK
    exact fin_k tt_ok (rs := rs_timer_Mine) rfl rfl hK [] rfl rfl rfl rfl rfl rfl
def spMineT : List TV → Option (Prop × FV)
  | [.agg [.int .u8 f, .int .i32 n]] => some (True, .t (.s (.bool (mineT f n))))
  | _ => none
theorem ceMineT : CEok Try.prog f_timer_Mine spMineT := ⟨cal_timer_Mine, fun args p v h hp => by
  unfold spMineT at h; split at h
  · cases h; exact (Mine_c _ _).pure
  · cases h⟩
def texR (k : Core) (m : Ram) (f n : Int) : Core × Int × Ram := bif !priB k.pri then (.zero, 2, m) else bif !mineT f n then (.zero, 280, m) else bif !k.busy then (.zero, 8, m) else tryR m (excR k m n)
noncomputable abbrev ctEx : CT := [(f_timer_check, eCheck), (f_timer_try, eTryE), (f_timer_Mine, .pure spMineT)]
theorem ctEx_ok : CTok Try.prog ctEx := ⟨con_ok cal_timer_check _, con_ok cal_timer_try _, ceMineT, trivial⟩
theorem tExec_c (k : Core) (m : Ram) (f n : Int) (hok : k.ok) :
    Con Try.prog f_timer_Exec [.agg k.sv, .s (.loc 0 0), .agg [.int .u8 f, .int .i32 n]] [mBox m.l.length, mOwn m.l]
    (.ret (.tup [.agg (texR k m f n).1.sv, .s (.int .i64 (texR k m f n).2.1)]) [mBox (texR k m f n).2.2.l.length, mOwn (texR k m f n).2.2.l]) := by
  intro K hK
  obtain ⟨⟨k', e, m'⟩, hR⟩ : ∃ R, texR k m f n = R := ⟨_, rfl⟩
  rw [hR] at hK
  unfold texR at hR
  refine enter fn_timer_Exec rfl nt_timer_Exec rfl rfl (fun φ w0 β0 F => ?_)
  refine c_run tt_ok ctEx_ok k_timer_Exec [] 60 (by kernel_rfl) ?_
  refine ⟨m, ⟨rfl, rfl, rfl, rfl, hok.pri⟩, ?_⟩
  rcases hpb : priB k.pri with _ | _
  · rw [hpb] at hR
    cases hR
    refine ⟨fun _ => ?_, fun h => absurd h (by decide)⟩
    exact fin_k tt_ok (rs := rs_timer_Exec) rfl rfl hK [0, 1] rfl rfl rfl rfl rfl rfl
  · rw [hpb] at hR
    refine ⟨fun h => absurd h (by decide), fun _ => ?_⟩
    refine ⟨trivial, fun h1 => ?_, fun h1 => ⟨fun h2 => ?_, fun h2 => ?_⟩⟩
    · rw [show (!mineT f n) = true from h1] at hR
      cases hR
      exact fin_k tt_ok (rs := rs_timer_Exec) rfl rfl hK [0, 1] rfl rfl rfl rfl rfl rfl
    · rw [show (!mineT f n) = false from h1, show (!k.busy) = true from h2] at hR
      cases hR
      exact fin_k tt_ok (rs := rs_timer_Exec) rfl rfl hK [0, 1] rfl rfl rfl rfl rfl rfl
    · rw [show (!mineT f n) = false from h1, show (!k.busy) = false from h2] at hR
      refine ⟨(m, k', e, m'), ⟨rfl, rfl, rfl, rfl, ⟨hok, priB_iff hpb⟩, hR⟩, ?_⟩
      exact fin_k tt_ok (rs := rs_timer_Exec) rfl rfl hK [0, 1] rfl rfl rfl rfl rfl rfl
noncomputable abbrev eTExec : Ent := .st (conS (P := Try.prog) (f := f_timer_Exec) fun cargs σ0 => match cargs, σ0 with
  | [.agg cs, .s (.loc 0 0), .agg [.int .u8 f, .int .i32 v]], [.blk 33 [.sl 1 0 n n'], .own 5 1 c xs] => withCore cs fun q hq => some ⟨.ex (Ram × Core × Int × Ram) fun y => .ask (n = y.1.l.length ∧ n' = y.1.l.length ∧ c = y.1.l.length ∧ xs = bytesI y.1.l ∧ q.ok ∧ texR q y.1 f v = y.2)
      (.ret (.tup [.agg y.2.1.sv, .s (.int .i64 y.2.2.1)]) [mBox y.2.2.2.l.length, mOwn y.2.2.2.l]), fun K h => by
      obtain ⟨⟨m, r⟩, ⟨e1, e2, e3, e4, h1, h2⟩, h⟩ := h
      dsimp only at e1 e2 e3 e4 h2 h
      subst e1; subst e2; subst e3; subst e4; subst hq
      refine tExec_c q m f v h1 K ?_
      rw [h2]; exact h⟩
  | _, _ => none)
end Go.Proofs

namespace Go.Proofs
open Go Go.Sx
set_option maxRecDepth 10000
def oR4 (n : Nat) (T : List (Int × Int)) (m : Ram) (a b c : Ch) (g : Bool) : Option (Core × Bool × Ram) → Out
  | some r => .all (List (Int × Int) × Nat) (fun x => x.1.length ≤ x.2) fun x => .ret (.t (.agg r.1.sv)) (q4o a b c (.blk 4 [.bool r.2.1]) x.1 x.2 r.2.2)
  | none => .all (List (Int × Int) × Nat × Ram) (fun x => Tp n T m x.1 x.2.2 ∧ x.1.length ≤ x.2.1) fun x => .ret pan (q4o a b c (.blk 4 [.bool g]) x.1 x.2.1 x.2.2)
theorem Remove1_c (T : List (Int × Int)) (m : Ram) (cap : Nat) (k : Core) (w p : Int) (g : Bool) (hok : k.ok) (hp : p = 0 ∨ p = 1) (hT : T.length ≤ 19970) (hc : T.length ≤ cap) :
    ConX Try.prog chT f_timer_Remove_1 [.s (.loc 0 0), .s (.loc 1 0), .s (.loc 2 0), .s (.loc 3 0), .s (.loc 4 0)] (q4 (.blk 26 k.sv) (.blk 21 [.int .i32 w]) (.blk 3 [.int .i64 p]) (.blk 4 [.bool g]) T cap m)
    (oR4 1 T m (.blk 26 k.sv) (.blk 21 [.int .i32 w]) (.blk 3 [.int .i64 p]) g (remR k m w p)) := by
  intro K hK
  refine enterX fn_timer_Remove_1 rfl nt_timer_Remove_1 rfl rfl (fun φ w0 β0 F => ?_)
  refine c_run tt_ok (ct := []) trivial k_timer_Remove_1 [12] 60 (by kernel_rfl) ?_
  show WpL _ _ _ _ _ _
  rcases hI : remR k m w p with _ | ⟨k', b, m'⟩
  · rw [hI] at hK
    refine l_callX xRem cal_timer_tape_remove rfl rfl rfl trivial rfl rfl rfl rfl rfl ?_
    refine ⟨(T, m, none), ⟨rfl, rfl, rfl, rfl, rfl, rfl, rfl, ⟨hok, hp, by dsimp only; omega, hc⟩, hI⟩, fun x hx => ?_⟩
    refine e_run tt_ok (ct := []) trivial k_timer_Remove_1 [] 60 (by kernel_rfl) ?_
    exact fin_pan (hK x hx) [0, 1, 2, 3, 4, 5, 6, 7, 9] rfl rfl rfl rfl
  · rw [hI] at hK
    refine l_callX xRem cal_timer_tape_remove rfl rfl rfl trivial rfl rfl rfl rfl rfl ?_
    refine ⟨(T, m, some (k', b, m')), ⟨rfl, rfl, rfl, rfl, rfl, rfl, rfl, ⟨hok, hp, by dsimp only; omega, hc⟩, hI⟩, fun x hx => ?_⟩
    refine l_run tt_ok (ct := []) trivial k_timer_Remove_1 [] 60 (by kernel_rfl) (by kernel_rfl) ?_
    exact fin_kX tt_ok (rs := rs_timer_Remove_1) rfl rfl (hK x hx.2) [0, 1, 2, 3, 4, 5, 6, 7, 9] rfl rfl rfl rfl rfl rfl rfl
noncomputable abbrev xR1 : XI f_timer_Remove_1 := fun cargs σ0 => match cargs, σ0 with
  | [.s (.loc 0 0), .s (.loc 1 0), .s (.loc 2 0), .s (.loc 3 0), .s (.loc 4 0)], [.blk 115 [.loc 5 0, .sl 6 0 n cap], .blk 26 cs, .blk 21 [.int .i32 w], .blk 3 [.int .i64 p], .blk 4 [.bool g], .blk 33 [.sl 7 0 k k'], .own 22 2 cap' ys, .own 5 1 c xs] => withCore cs fun q hq =>
    some ⟨.ex (List (Int × Int) × Ram × Option (Core × Bool × Ram)) fun y => .ask (n = y.1.length ∧ cap' = cap ∧ ys = tapV y.1 ∧ k = y.2.1.l.length ∧ k' = y.2.1.l.length ∧ c = y.2.1.l.length ∧ xs = bytesI y.2.1.l ∧ (q.ok ∧ (p = 0 ∨ p = 1) ∧ y.1.length ≤ 19970 ∧ y.1.length ≤ cap) ∧ remR q y.2.1 w p = y.2.2)
      (oR4 1 y.1 y.2.1 (.blk 26 cs) (.blk 21 [.int .i32 w]) (.blk 3 [.int .i64 p]) g y.2.2), fun K h => by
      obtain ⟨⟨T, m, r⟩, ⟨e1, e2, e3, e4, e5, e6, e7, ⟨e8, e10, e11, e12⟩, e13⟩, h⟩ := h
      dsimp only at e1 e2 e3 e4 e5 e6 e7 e8 e10 e11 e12 e13 h
      subst e1; subst e2; subst e3; subst e4; subst e5; subst e6; subst e7; subst hq; subst e13
      exact Remove1_c T m _ q w p g e8 e10 e11 e12 K h⟩
  | _, _ => none
def tryRb (m : Ram) : Option (Core × Bool × Ram) → Core × Int × Bool × Ram
  | some r => (r.1, 0, r.2.1, r.2.2)
  | none => (.zero, 4, false, m)
theorem tryR_c (m : Ram) (k : Core) (w p : Int) (hok : k.ok) (hp : p = 0 ∨ p = 1) :
    Con Try.prog f_timer_try [.s (.loc 0 0), .clo (.func 39) [] [.loc 1 0, .loc 2 0, .loc 3 0, .loc 4 0]] [.blk 33 [.sl 5 0 m.l.length m.l.length], .blk 26 k.sv, .blk 21 [.int .i32 w], .blk 3 [.int .i64 p], .blk 4 [.bool false], mOwn m.l]
    (.ret (.tup [.agg (tryRb m (remR k m w p)).1.sv, .s (.int .i64 (tryRb m (remR k m w p)).2.1)]) [.blk 33 [.sl 5 0 (tryRb m (remR k m w p)).2.2.2.l.length (tryRb m (remR k m w p)).2.2.2.l.length], .blk 26 k.sv, .blk 21 [.int .i32 w], .blk 3 [.int .i64 p], .blk 4 [.bool (tryRb m (remR k m w p)).2.2.1], mOwn (tryRb m (remR k m w p)).2.2.2.l]) := by
  intro K hK
  refine enterDf fn_timer_try rfl nt_timer_try rfl rfl (fun φ w0 β0 F => ?_)
  refine c_run tt_ok (ct := []) trivial k_timer_try [13] 60 (by kernel_rfl) ?_
  show WpL _ _ _ _ _ _
  refine WpL.into (nilCell2 9 22 2 rfl) ?_
  refine l_defer rfl rfl rfl rfl rfl trivial rfl rfl (fun D hD => ?_)
  refine l_run tt_ok (ct := []) trivial k_timer_try [13] 60 (by kernel_rfl) (by kernel_rfl) ?_
  show WpL _ _ _ _ _ _
  rcases hI : remR k m w p with _ | ⟨k', b, m'⟩
  · rw [hI] at hK
    refine l_callX xR1 cal_timer_Remove_1 rfl rfl rfl trivial rfl rfl rfl rfl rfl ?_
    refine ⟨([], m, none), ⟨rfl, rfl, rfl, rfl, rfl, rfl, rfl, ⟨hok, hp, Nat.zero_le _, Nat.zero_le _⟩, hI⟩, fun x hx => ?_⟩
    refine e_run tt_ok (ct := []) trivial k_timer_try [] 60 (by kernel_rfl) ?_
    refine door (.panicking chR) hD rfl cal_timer_try_1 (.inr ⟨chT, rfl, rfl⟩) rfl (try1_L (C := .zero) (E := 0) [10, 6, 7, 8, 9, 0, 12, 5] (by decide) hx.1 (by decide) rfl rfl) (fun τ hτ => ?_)
    subst hτ
    exact fin_k tt_ok (rs := rs_timer_try) rfl rfl hK [0, 1, 2, 3, 4, 5] rfl rfl rfl rfl rfl rfl
  · rw [hI] at hK
    refine l_callX xR1 cal_timer_Remove_1 rfl rfl rfl trivial rfl rfl rfl rfl rfl ?_
    refine ⟨([], m, some (k', b, m')), ⟨rfl, rfl, rfl, rfl, rfl, rfl, rfl, ⟨hok, hp, Nat.zero_le _, Nat.zero_le _⟩, hI⟩, fun x hx => ?_⟩
    refine l_run tt_ok (ct := []) trivial k_timer_try [] 60 (by kernel_rfl) (by kernel_rfl) ?_
    refine door .returning hD rfl cal_timer_try_1 (.inl ⟨rfl, .inl rfl⟩) rfl (try1_D0 _ _ _ _ _) (fun τ hτ => ?_)
    subst hτ
    exact fin_k tt_ok (rs := rs_timer_try) rfl rfl hK [0, 1, 2, 3, 4, 5] rfl rfl rfl rfl rfl rfl
noncomputable abbrev eTryR : Ent := .st (conS (P := Try.prog) (f := f_timer_try) fun cargs σ0 => match cargs, σ0 with
  | [.s (.loc 0 0), .clo (.func 39) [] [.loc 1 0, .loc 2 0, .loc 3 0, .loc 4 0]], [.blk 33 [.sl 5 0 n n'], .blk 26 cs, .blk 21 [.int .i32 w], .blk 3 [.int .i64 p], .blk 4 [.bool false], .own 5 1 c xs] => withCore cs fun q hq =>
    some ⟨.ex (Ram × Core × Int × Bool × Ram) fun y => .ask (n = y.1.l.length ∧ n' = y.1.l.length ∧ c = y.1.l.length ∧ xs = bytesI y.1.l ∧ (q.ok ∧ (p = 0 ∨ p = 1)) ∧ tryRb y.1 (remR q y.1 w p) = y.2)
      (.ret (.tup [.agg y.2.1.sv, .s (.int .i64 y.2.2.1)]) [.blk 33 [.sl 5 0 y.2.2.2.2.l.length y.2.2.2.2.l.length], .blk 26 cs, .blk 21 [.int .i32 w], .blk 3 [.int .i64 p], .blk 4 [.bool y.2.2.2.1], mOwn y.2.2.2.2.l]), fun K h => by
      obtain ⟨⟨m, r⟩, ⟨e1, e2, e3, e4, ⟨e5, e7⟩, e8⟩, h⟩ := h
      dsimp only at e1 e2 e3 e4 e8 h
      subst e1; subst e2; subst e3; subst e4; subst hq; subst e8
      exact tryR_c m q w p e5 e7 K h⟩
  | _, _ => none)
def trmE : Core × Int × Bool × Ram → Core × Int × Ram
  | (k, e, b, m) => bif bif e == 0 then !b else false then (.zero, 6, m) else (k, e, m)
def trmR (k : Core) (m : Ram) (w p : Int) : Core × Int × Ram := bif !priB p then (.zero, 2, m) else trmE (tryRb m (remR k m w p))
noncomputable abbrev ctRv : CT := [(f_timer_check, eCheck), (f_timer_try, eTryR)]
theorem ctRv_ok : CTok Try.prog ctRv := ⟨con_ok cal_timer_check _, con_ok cal_timer_try _, trivial⟩
theorem tRemove_c (k : Core) (m : Ram) (w p : Int) (hok : k.ok) (hp : -9223372036854775808 ≤ p ∧ p ≤ 9223372036854775807) :
    Con Try.prog f_timer_Remove [.agg k.sv, .s (.loc 0 0), .s (.int .i32 w), .s (.int .i64 p)] [mBox m.l.length, mOwn m.l]
    (.ret (.tup [.agg (trmR k m w p).1.sv, .s (.int .i64 (trmR k m w p).2.1)]) [mBox (trmR k m w p).2.2.l.length, mOwn (trmR k m w p).2.2.l]) := by
  intro K hK
  refine enter fn_timer_Remove rfl nt_timer_Remove rfl rfl (fun φ w0 β0 F => ?_)
  refine c_run tt_ok ctRv_ok k_timer_Remove [100027] 60 (by kernel_rfl) ?_
  refine ⟨m, ⟨rfl, rfl, rfl, rfl, hp⟩, ?_⟩
  rcases hpb : priB p with _ | _
  · unfold trmR at hK
    rw [hpb] at hK
    refine ⟨fun _ => ?_, fun h => absurd h (by decide)⟩
    exact fin_k tt_ok (rs := rs_timer_Remove) rfl rfl hK [0, 1] rfl rfl rfl rfl rfl rfl
  · refine ⟨fun h => absurd h (by decide), fun _ => ?_⟩
    obtain ⟨⟨k', e, b, m'⟩, hR⟩ : ∃ R, tryRb m (remR k m w p) = R := ⟨_, rfl⟩
    have hR' : trmR k m w p = trmE (k', e, b, m') := by unfold trmR; rw [hpb, hR]; rfl
    obtain ⟨⟨k2, e2, m2⟩, hE⟩ : ∃ r, trmE (k', e, b, m') = r := ⟨_, rfl⟩
    rw [hR', hE] at hK
    unfold trmE at hE
    dsimp only at hE
    refine ⟨(m, k', e, b, m'), ⟨rfl, rfl, rfl, rfl, ⟨hok, priB_iff hpb⟩, hR⟩, ?_⟩
    rcases he : (e == 0) with _ | _
    · refine ⟨.t (.s (.bool false)), fun β => told_bl he, rfl, ?_⟩
      rw [he] at hE
      cases hE
      refine ⟨fun h => absurd h (by simp), fun _ => ?_⟩
      exact fin_k tt_ok (rs := rs_timer_Remove) rfl rfl hK [0, 1] rfl rfl rfl rfl rfl rfl
    · refine ⟨.t (.s (.bool true)), fun β => told_bl he, rfl, ?_⟩
      rw [he] at hE
      cases b
      · cases hE
        refine ⟨fun _ => ?_, fun h => absurd h (by simp)⟩
        exact fin_k tt_ok (rs := rs_timer_Remove) rfl rfl hK [0, 1] rfl rfl rfl rfl rfl rfl
      · have he0 : e = 0 := by simpa using he
        subst he0
        cases hE
        refine ⟨fun h => absurd h (by simp), fun _ => ?_⟩
        exact fin_k tt_ok (rs := rs_timer_Remove) rfl rfl hK [0, 1] rfl rfl rfl rfl rfl rfl
noncomputable abbrev eTRem : Ent := .st (conS (P := Try.prog) (f := f_timer_Remove) fun cargs σ0 => match cargs, σ0 with
  | [.agg cs, .s (.loc 0 0), .s (.int .i32 w), .s (.int .i64 p)], [.blk 33 [.sl 1 0 n n'], .own 5 1 c xs] => withCore cs fun q hq => some ⟨.ex (Ram × Core × Int × Ram) fun y => .ask (n = y.1.l.length ∧ n' = y.1.l.length ∧ c = y.1.l.length ∧ xs = bytesI y.1.l ∧ (q.ok ∧ -9223372036854775808 ≤ p ∧ p ≤ 9223372036854775807) ∧ trmR q y.1 w p = y.2)
      (.ret (.tup [.agg y.2.1.sv, .s (.int .i64 y.2.2.1)]) [mBox y.2.2.2.l.length, mOwn y.2.2.2.l]), fun K h => by
      obtain ⟨⟨m, r⟩, ⟨e1, e2, e3, e4, h1, h2⟩, h⟩ := h
      dsimp only at e1 e2 e3 e4 h2 h
      subst e1; subst e2; subst e3; subst e4; subst hq
      refine tRemove_c q m w p h1.1 h1.2 K ?_
      rw [h2]; exact h⟩
  | _, _ => none)
end Go.Proofs

namespace Go.Sx
open Go
section
variable {X : Cx} {fr : Fr} {σ : List Ch}
/-- A row that a variable holds gets a new number. -/
theorem rowMove1 (j i : Nat) {t e sz n cap cap' : Nat} {xs : List Value} (hj : σ[j]? = some (.blk t [.sl i 0 n cap])) (hi : σ[i]? = some (.own e sz cap' xs)) :
    InTo X fr σ fr ((σ.set i .dead ++ [Ch.own e sz cap' xs]).set j (.blk t [.sl σ.length 0 n cap])) := by
  intro β a w hr
  have hjl := (List.getElem?_eq_some_iff.1 hj).1
  have hil := (List.getElem?_eq_some_iff.1 hi).1
  have hij : i ≠ j := by rintro rfl; rw [hi] at hj; cases hj
  have hkill : Sat β (σ.set i .dead) X.φ w := hr.mem.weak hi (fun g hg => by simp [Ch.foot] at hg) (fun g hg => by simp [Ch.rfoot, Ch.foot] at hg) trivial trivial
  have hlenS : (σ.set i .dead).length = σ.length := by simp
  obtain ⟨β', h1, h2, h3⟩ := hkill.push (w' := w) (.own e sz cap' xs) (β i) (fun _ _ _ => rfl)
    (fun g hg => by
      have hgf : g ∈ (Ch.own e sz cap' xs).foot (β i) := hg
      refine .inr ⟨fun l d hd hg' => ?_, hr.mem.off i _ hi g hgf⟩
      by_cases hil' : i = l
      · subst hil'; rw [List.getElem?_set_self hil] at hd; cases hd; simp [Ch.rfoot, Ch.foot] at hg'
      · rw [List.getElem?_set_ne hil'] at hd; exact hr.mem.disj i l _ d hi hd hil' g hgf hg')
    (fun g hg => by
      have hgf : g ∈ (Ch.own e sz cap' xs).rfoot (β i) := hg
      refine .inr fun l d hd hg' => ?_
      by_cases hil' : i = l
      · subst hil'; rw [List.getElem?_set_self hil] at hd; cases hd; simp [Ch.foot] at hg'
      · rw [List.getElem?_set_ne hil'] at hd; exact hr.mem.disj l i d _ hd hi (fun e => hil' e.symm) g hg' hgf)
    trivial (fun β' _ _ => hr.mem.sat i _ hi)
  rw [hlenS] at h1 h2
  have hj' : (σ.set i .dead ++ [Ch.own e sz cap' xs])[j]? = some (.blk t [.sl i 0 n cap]) := by
    rw [List.getElem?_append_left (by simpa using hjl), List.getElem?_set_ne hij]; exact hj
  refine ⟨β', hr.defers, hr.size, Knows.ext hr.frwf h1 hr.knows, fun x hx => FV.wf_mono (by simp) (hr.frwf x hx), ?_, hr.same, fun i hi => (h1 i (Nat.lt_of_lt_of_le hi hr.fits)).trans (hr.agree i hi), by have := hr.fits; simp; omega, ?_⟩
  · refine h3.weak hj' (fun g hg => hg) (fun g hg => hg) ?_ ?_
    · intro x hx
      simp only [List.mem_singleton] at hx
      subst hx
      show σ.length < _
      simp
    · have hs := h3.sat j _ hj'
      simp only [Ch.sat] at hs ⊢
      refine ⟨hs.1, ?_⟩
      rw [hs.2]
      simp [SV.den, h2, h1 i hil]
  · intro l c hl g hg
    by_cases hjl' : j = l
    · subst hjl'
      rw [List.getElem?_set_self (by simp; omega)] at hl
      cases hl
      have hg' : g ∈ (Ch.blk t [.sl i 0 n cap]).rfoot (β' j) := hg
      rw [h1 j hjl] at hg'
      exact hr.src j _ hj g hg'
    · rw [List.getElem?_set_ne hjl'] at hl
      rcases append_get hl with ⟨hl', hd'⟩ | ⟨rfl, rfl⟩
      · rw [h1 l (by simpa using hl')] at hg
        by_cases hil' : i = l
        · subst hil'; rw [List.getElem?_set_self hil] at hd'; cases hd'; simp [Ch.rfoot, Ch.foot] at hg
        · rw [List.getElem?_set_ne hil'] at hd'; exact hr.src l c hd' g hg
      · rw [hlenS, h2] at hg
        exact hr.src i _ hi g hg
end
end Go.Sx
namespace Go.Proofs
open Go Go.Sx
set_option maxRecDepth 10000
/-- The processes of a timer queue. -/
def tquL : Nat → Ram → Int → List Int → Option (List Int)
  | 0, _, _, _ => none
  | f + 1, m, w, L => bif w == NP then some L else bif bif f == 0 then true else !validB m w then none else tquL f m (m.word (IntKind.i32.wrap (w + -16))) (L ++ [w])
abbrev qQ (k : Core) (p : Int) (L : List Int) (c : Nat) (m : Ram) (s : Nat) (r d : Ch) : List Ch := [.blk 115 [.loc 4 0, .sl 5 0 0 0], .blk 26 k.sv, .blk 3 [.int .i64 p], .blk 35 [.sl s 0 L.length c], .blk 33 [.sl 7 0 m.l.length m.l.length], .own 22 2 0 [], r, mOwn m.l, d]
def oQ1 (k : Core) (p : Int) (m : Ram) : Option (List Int) → Out
  | some L => .all Nat (fun c => L.length ≤ c ∧ (c = 0 → L = [])) fun c => .ret (.t (.agg k.sv)) (qQ k p L c m 8 .dead (.own 21 1 c (qV L)))
  | none => .all (List Int × Nat) (fun _ => True) fun x => .ret pan (qQ k p x.1 x.2 m 8 .dead (.own 21 1 x.2 (qV x.1)))
noncomputable abbrev ctQ1 : CT := [(f_timer_valid, eTval), (f_timer_walk, in_timer_walk []), (f_timer_tape_get, in_timer_tape_get ctWo)]
theorem ctQ1_ok : CTok Try.prog ctQ1 := ⟨con_ok cal_timer_valid _, in_timer_walk_ok (ct := []) trivial, in_timer_tape_get_ok ctWo_ok, trivial⟩
set_option maxHeartbeats 1000000 in
theorem Queue1_c (m : Ram) (k : Core) (p : Int) (hok' : k.ok) (hp : p = 0 ∨ p = 1) :
    ConX Try.prog chT f_timer_Queue_1 [.s (.loc 0 0), .s (.loc 1 0), .s (.loc 2 0), .s (.loc 3 0)] [.blk 115 [.loc 4 0, .sl 5 0 0 0], .blk 26 k.sv, .blk 3 [.int .i64 p], .blk 35 [.sl 6 0 0 0], .blk 33 [.sl 7 0 m.l.length m.l.length], .own 22 2 0 [], .own 21 1 0 [], mOwn m.l]
    (oQ1 k p m (tquL queN m (k.tm (p == 1)) [])) := by
  intro K hK
  rcases hp with rfl | rfl
  · obtain ⟨R, hR⟩ : ∃ R, tquL queN m k.t0 [] = R := ⟨_, rfl⟩
    rw [show k.tm ((0 : Int) == 1) = k.t0 from rfl, hR] at hK
    refine enterMX fn_timer_Queue_1 rfl nt_timer_Queue_1 rfl rfl (fun φ w0 β0 F => ?_)
    refine c_run tt_ok ctQ1_ok k_timer_Queue_1 [] 90 (by kernel_rfl) ?_
    show WpC _ _ _ _ _
    refine WpC.into (rowMove1 3 6 rfl rfl) ?_
    refine c_range 12 rfl rfl rfl rfl rfl rfl cal_timer_walk_1 fn_timer_walk_1 rfl nt_timer_walk_1 rfl rfl rfl (fun G hok => ?_)
    refine c_run tt_ok ctQ1_ok k_timer_walk_1 [] 60 (by kernel_rfl) ?_
    show WpC _ _ _ _ _
    refine c_loop (α := Int × List Int × Nat × Nat) (fun x => I32 x.1 ∧ (x.2.1.length ≤ x.2.2.1 ∧ (x.2.2.1 = 0 → x.2.1 = [])) ∧ (1 ≤ x.2.2.2 ∧ x.2.2.2 + x.2.1.length = 1025) ∧ tquL queN m k.t0 [] = tquL x.2.2.2 m x.1 x.2.1) (fun x => x.2.2.2)
      (fun x => [(0, .t (.s (.raw (.func (.yield G.l) #[] #[]))), none), (1, .t (.s (.loc 9 0)), none), (2, .t (.s (.loc 11 0)), none), (3, .t (.s (.loc 10 0)), none), (5, .t (.s (.int .i64 (1025 - (x.2.2.2 : Int)))), none), (6, .t (.s (.int .i32 x.1)), none)])
      (fun x => [.blk 115 [.loc 4 0, .sl 5 0 0 0], .blk 26 k.sv, .blk 3 [.int .i64 0], .blk 35 [.sl 12 0 x.2.1.length x.2.2.1], .blk 33 [.sl 7 0 m.l.length m.l.length], .own 22 2 0 [], .dead, mOwn m.l, .blk 26 Core.zero.sv, .blk 26 k.sv, .blk 75 [.loc 0 0], .blk 3 [.int .i64 0], .own 21 1 x.2.2.1 (qV x.2.1)]) (k.t0, [], 0, queN) ?_ ?_ ?_
    · exact ⟨hok'.t0, ⟨Nat.le_refl _, fun _ => rfl⟩, by show 1 ≤ queN ∧ queN + 0 = 1025; rw [queN_eq]; omega, rfl⟩
    · refine into [0, 1, 2, 3, 4, 5, 6, 7, 8, 9, 10, 11, 12] ⟨⟨_, rfl, rfl⟩, ⟨_, rfl, rfl⟩, ⟨_, rfl, rfl⟩, ⟨_, rfl, rfl⟩, ⟨_, rfl, ?_⟩, ⟨_, rfl, rfl⟩, trivial⟩ ⟨_, rfl, rfl⟩ rfl rfl rfl rfl
      rw [queN_eq]; rfl
    · rintro ⟨q, L, c, f⟩ ⟨hq, hLc, hf, hlaw⟩
      simp only at hq hLc hf hlaw
      obtain ⟨f, rfl⟩ : ∃ f', f = f' + 1 := ⟨f - 1, by omega⟩
      dsimp only
      have hn : IntKind.i64.wrap (1025 - ((f + 1 : Nat) : Int) + 1) = 1025 - (f : Int) := by rw [wrap64 (by omega) (by omega)]; omega
      refine c_run' tt_ok ctQ1_ok k_timer_walk_1 [33, 100017, 100019] 60 (by kernel_rfl) (by kernel_rfl) ?_
      refine ⟨fun h2 => ⟨.t (.s (.int .i64 (1025 - (f : Int)))), fun β => told_il hn.symm, rfl, ?_⟩, fun h2 => ?_⟩
      · rcases Nat.eq_zero_or_pos f with rfl | hf0
        · refine ⟨.t (.s (.bool true)), fun β => told_bl rfl, rfl, ?_⟩
          refine ⟨fun h => absurd h (by decide), fun _ => ⟨fun h => absurd h (by decide), fun _ => ⟨rfl, fun _ => ?_, fun h => absurd h (by decide)⟩⟩⟩
          rw [tquL, show (q == NP) = false by simpa [NP] using h2, cond_false, show ((0 : Nat) == 0) = true from rfl, cond_true, cond_true] at hlaw
          rw [hlaw] at hR
          subst hR
          refine l_iface rfl rfl trivial rfl rfl rfl rfl rfl ?_
          refine l_panic rfl trivial rfl ?_
          refine e_run tt_ok ctQ1_ok k_timer_walk_1 [] 60 (by kernel_rfl) ?_
          refine it_panic hok ?_
          refine e_run tt_ok ctQ1_ok k_timer_Queue_1 [] 60 (by kernel_rfl) ?_
          refine finM hok rfl (.inr (.inr ⟨_, rfl⟩)) ?_
          exact fin_pan (hK (L, c) trivial) [0, 1, 2, 3, 4, 5, 6, 7, 12] rfl rfl rfl rfl
        · have hf0' : (f == 0) = false := by simp; omega
          rw [tquL, show (q == NP) = false by simpa [NP] using h2, cond_false, hf0', cond_false] at hlaw
          refine ⟨.t (.s (.bool false)), fun β => told_bl (by simp; omega), rfl, ?_⟩
          refine ⟨fun h3 => ⟨m, ⟨rfl, rfl, rfl, rfl, hq⟩, fun h4 => ?_, fun h4 => ?_⟩, fun h3 => absurd h3 (by decide)⟩
          · rw [show (!validB m q) = true from h4, cond_true] at hlaw
            rw [hlaw] at hR
            subst hR
            refine l_iface rfl rfl trivial rfl rfl rfl rfl rfl ?_
            refine l_panic rfl trivial rfl ?_
            refine e_run tt_ok ctQ1_ok k_timer_walk_1 [] 60 (by kernel_rfl) ?_
            refine it_panic hok ?_
            refine e_run tt_ok ctQ1_ok k_timer_Queue_1 [] 60 (by kernel_rfl) ?_
            refine finM hok rfl (.inr (.inr ⟨_, rfl⟩)) ?_
            exact fin_pan (hK (L, c) trivial) [0, 1, 2, 3, 4, 5, 6, 7, 12] rfl rfl rfl rfl
          · rw [show (!validB m q) = false from h4, cond_false] at hlaw
            show WpL _ _ _ _ _ _
            refine l_yield hok rfl rfl rfl trivial rfl rfl rfl rfl rfl (fun D => ?_)
            refine c_run tt_ok ctQ1_ok k_timer_Queue_1 [] 60 (by kernel_rfl) ?_
            show WpE _ _ _ _ _
            refine rnd_begin hok D ?_
            refine c_run tt_ok ctQ1_ok k_timer_Queue_1 [] 60 (by kernel_rfl) ?_
            refine ⟨⟨rfl, by rw [qV_len, Nat.mul_one], Nat.le_refl _, fun u hu => ?_, by simp only [maxLen]; omega, by omega⟩, fun c1 hc1 hc2 => ?_⟩
            · rw [List.mem_singleton.1 (List.mem_of_mem_drop (List.mem_of_mem_take hu))]; rfl
            show WpE _ _ _ _ _
            refine rnd_end hok D rfl rfl (.inl ⟨rfl, rfl⟩) ?_
            refine l_run tt_ok ctQ1_ok k_timer_walk_1 [] 60 (by kernel_rfl) (by kernel_rfl) ?_
            refine ⟨fun h => absurd h (by simp), fun _ => ⟨m, ⟨rfl, rfl, rfl, rfl, I32_wrap _⟩, ?_⟩⟩
            refine e_again (m.word (IntKind.i32.wrap (q + -16)), L ++ [q], c1, f) ⟨word_I32 _ _, ⟨by simpa using hc1, fun h => by have hc1' : L.length + 1 ≤ c1 := hc1; dsimp only at h; omega⟩, by simp only [List.length_append, List.length_singleton]; omega, hlaw⟩ (Nat.lt_succ_self f) (into [0, 1, 2, 3, 4, 5, 6, 7, 8, 9, 10, 11, 14] ⟨⟨_, rfl, rfl⟩, ⟨_, rfl, rfl⟩, ⟨_, rfl, rfl⟩, ⟨_, rfl, rfl⟩, ⟨_, rfl, rfl⟩, ⟨_, rfl, rfl⟩, trivial⟩ ⟨_, rfl, ?_⟩ rfl rfl rfl rfl)
            dsimp only
            rw [qV_app, show L.length + 1 = (L ++ [q]).length by simp]
            rfl
      · rw [tquL, show (q == NP) = true by simpa [NP] using h2, cond_true] at hlaw
        rw [hlaw] at hR
        subst hR
        show WpE _ _ _ _ _
        refine it_end hok (.inl rfl) rfl (by simp) rfl ?_
        refine e_run tt_ok ctQ1_ok k_timer_Queue_1 [] 60 (by kernel_rfl) ?_
        show WpE _ _ _ _ _
        refine finM hok rfl (.inr (.inl rfl)) ?_
        exact fin_kX tt_ok (rs := rs_timer_Queue_1) rfl rfl (hK c hLc) [0, 1, 2, 3, 4, 5, 6, 7, 12] rfl rfl rfl rfl rfl rfl rfl
  · obtain ⟨R, hR⟩ : ∃ R, tquL queN m k.t1 [] = R := ⟨_, rfl⟩
    rw [show k.tm ((1 : Int) == 1) = k.t1 from rfl, hR] at hK
    refine enterMX fn_timer_Queue_1 rfl nt_timer_Queue_1 rfl rfl (fun φ w0 β0 F => ?_)
    refine c_run tt_ok ctQ1_ok k_timer_Queue_1 [] 90 (by kernel_rfl) ?_
    show WpC _ _ _ _ _
    refine WpC.into (rowMove1 3 6 rfl rfl) ?_
    refine c_range 12 rfl rfl rfl rfl rfl rfl cal_timer_walk_1 fn_timer_walk_1 rfl nt_timer_walk_1 rfl rfl rfl (fun G hok => ?_)
    refine c_run tt_ok ctQ1_ok k_timer_walk_1 [] 60 (by kernel_rfl) ?_
    show WpC _ _ _ _ _
    refine c_loop (α := Int × List Int × Nat × Nat) (fun x => I32 x.1 ∧ (x.2.1.length ≤ x.2.2.1 ∧ (x.2.2.1 = 0 → x.2.1 = [])) ∧ (1 ≤ x.2.2.2 ∧ x.2.2.2 + x.2.1.length = 1025) ∧ tquL queN m k.t1 [] = tquL x.2.2.2 m x.1 x.2.1) (fun x => x.2.2.2)
      (fun x => [(0, .t (.s (.raw (.func (.yield G.l) #[] #[]))), none), (1, .t (.s (.loc 9 0)), none), (2, .t (.s (.loc 11 0)), none), (3, .t (.s (.loc 10 0)), none), (5, .t (.s (.int .i64 (1025 - (x.2.2.2 : Int)))), none), (6, .t (.s (.int .i32 x.1)), none)])
      (fun x => [.blk 115 [.loc 4 0, .sl 5 0 0 0], .blk 26 k.sv, .blk 3 [.int .i64 1], .blk 35 [.sl 12 0 x.2.1.length x.2.2.1], .blk 33 [.sl 7 0 m.l.length m.l.length], .own 22 2 0 [], .dead, mOwn m.l, .blk 26 Core.zero.sv, .blk 26 k.sv, .blk 75 [.loc 0 0], .blk 3 [.int .i64 1], .own 21 1 x.2.2.1 (qV x.2.1)]) (k.t1, [], 0, queN) ?_ ?_ ?_
    · exact ⟨hok'.t1, ⟨Nat.le_refl _, fun _ => rfl⟩, by show 1 ≤ queN ∧ queN + 0 = 1025; rw [queN_eq]; omega, rfl⟩
    · refine into [0, 1, 2, 3, 4, 5, 6, 7, 8, 9, 10, 11, 12] ⟨⟨_, rfl, rfl⟩, ⟨_, rfl, rfl⟩, ⟨_, rfl, rfl⟩, ⟨_, rfl, rfl⟩, ⟨_, rfl, ?_⟩, ⟨_, rfl, rfl⟩, trivial⟩ ⟨_, rfl, rfl⟩ rfl rfl rfl rfl
      rw [queN_eq]; rfl
    · rintro ⟨q, L, c, f⟩ ⟨hq, hLc, hf, hlaw⟩
      simp only at hq hLc hf hlaw
      obtain ⟨f, rfl⟩ : ∃ f', f = f' + 1 := ⟨f - 1, by omega⟩
      dsimp only
      have hn : IntKind.i64.wrap (1025 - ((f + 1 : Nat) : Int) + 1) = 1025 - (f : Int) := by rw [wrap64 (by omega) (by omega)]; omega
      refine c_run' tt_ok ctQ1_ok k_timer_walk_1 [33, 100017, 100019] 60 (by kernel_rfl) (by kernel_rfl) ?_
      refine ⟨fun h2 => ⟨.t (.s (.int .i64 (1025 - (f : Int)))), fun β => told_il hn.symm, rfl, ?_⟩, fun h2 => ?_⟩
      · rcases Nat.eq_zero_or_pos f with rfl | hf0
        · refine ⟨.t (.s (.bool true)), fun β => told_bl rfl, rfl, ?_⟩
          refine ⟨fun h => absurd h (by decide), fun _ => ⟨fun h => absurd h (by decide), fun _ => ⟨rfl, fun _ => ?_, fun h => absurd h (by decide)⟩⟩⟩
          rw [tquL, show (q == NP) = false by simpa [NP] using h2, cond_false, show ((0 : Nat) == 0) = true from rfl, cond_true, cond_true] at hlaw
          rw [hlaw] at hR
          subst hR
          refine l_iface rfl rfl trivial rfl rfl rfl rfl rfl ?_
          refine l_panic rfl trivial rfl ?_
          refine e_run tt_ok ctQ1_ok k_timer_walk_1 [] 60 (by kernel_rfl) ?_
          refine it_panic hok ?_
          refine e_run tt_ok ctQ1_ok k_timer_Queue_1 [] 60 (by kernel_rfl) ?_
          refine finM hok rfl (.inr (.inr ⟨_, rfl⟩)) ?_
          exact fin_pan (hK (L, c) trivial) [0, 1, 2, 3, 4, 5, 6, 7, 12] rfl rfl rfl rfl
        · have hf0' : (f == 0) = false := by simp; omega
          rw [tquL, show (q == NP) = false by simpa [NP] using h2, cond_false, hf0', cond_false] at hlaw
          refine ⟨.t (.s (.bool false)), fun β => told_bl (by simp; omega), rfl, ?_⟩
          refine ⟨fun h3 => ⟨m, ⟨rfl, rfl, rfl, rfl, hq⟩, fun h4 => ?_, fun h4 => ?_⟩, fun h3 => absurd h3 (by decide)⟩
          · rw [show (!validB m q) = true from h4, cond_true] at hlaw
            rw [hlaw] at hR
            subst hR
            refine l_iface rfl rfl trivial rfl rfl rfl rfl rfl ?_
            refine l_panic rfl trivial rfl ?_
            refine e_run tt_ok ctQ1_ok k_timer_walk_1 [] 60 (by kernel_rfl) ?_
            refine it_panic hok ?_
            refine e_run tt_ok ctQ1_ok k_timer_Queue_1 [] 60 (by kernel_rfl) ?_
            refine finM hok rfl (.inr (.inr ⟨_, rfl⟩)) ?_
            exact fin_pan (hK (L, c) trivial) [0, 1, 2, 3, 4, 5, 6, 7, 12] rfl rfl rfl rfl
          · rw [show (!validB m q) = false from h4, cond_false] at hlaw
            show WpL _ _ _ _ _ _
            refine l_yield hok rfl rfl rfl trivial rfl rfl rfl rfl rfl (fun D => ?_)
            refine c_run tt_ok ctQ1_ok k_timer_Queue_1 [] 60 (by kernel_rfl) ?_
            show WpE _ _ _ _ _
            refine rnd_begin hok D ?_
            refine c_run tt_ok ctQ1_ok k_timer_Queue_1 [] 60 (by kernel_rfl) ?_
            refine ⟨⟨rfl, by rw [qV_len, Nat.mul_one], Nat.le_refl _, fun u hu => ?_, by simp only [maxLen]; omega, by omega⟩, fun c1 hc1 hc2 => ?_⟩
            · rw [List.mem_singleton.1 (List.mem_of_mem_drop (List.mem_of_mem_take hu))]; rfl
            show WpE _ _ _ _ _
            refine rnd_end hok D rfl rfl (.inl ⟨rfl, rfl⟩) ?_
            refine l_run tt_ok ctQ1_ok k_timer_walk_1 [] 60 (by kernel_rfl) (by kernel_rfl) ?_
            refine ⟨fun h => absurd h (by simp), fun _ => ⟨m, ⟨rfl, rfl, rfl, rfl, I32_wrap _⟩, ?_⟩⟩
            refine e_again (m.word (IntKind.i32.wrap (q + -16)), L ++ [q], c1, f) ⟨word_I32 _ _, ⟨by simpa using hc1, fun h => by have hc1' : L.length + 1 ≤ c1 := hc1; dsimp only at h; omega⟩, by simp only [List.length_append, List.length_singleton]; omega, hlaw⟩ (Nat.lt_succ_self f) (into [0, 1, 2, 3, 4, 5, 6, 7, 8, 9, 10, 11, 14] ⟨⟨_, rfl, rfl⟩, ⟨_, rfl, rfl⟩, ⟨_, rfl, rfl⟩, ⟨_, rfl, rfl⟩, ⟨_, rfl, rfl⟩, ⟨_, rfl, rfl⟩, trivial⟩ ⟨_, rfl, ?_⟩ rfl rfl rfl rfl)
            dsimp only
            rw [qV_app, show L.length + 1 = (L ++ [q]).length by simp]
            rfl
      · rw [tquL, show (q == NP) = true by simpa [NP] using h2, cond_true] at hlaw
        rw [hlaw] at hR
        subst hR
        show WpE _ _ _ _ _
        refine it_end hok (.inl rfl) rfl (by simp) rfl ?_
        refine e_run tt_ok ctQ1_ok k_timer_Queue_1 [] 60 (by kernel_rfl) ?_
        show WpE _ _ _ _ _
        refine finM hok rfl (.inr (.inl rfl)) ?_
        exact fin_kX tt_ok (rs := rs_timer_Queue_1) rfl rfl (hK c hLc) [0, 1, 2, 3, 4, 5, 6, 7, 12] rfl rfl rfl rfl rfl rfl rfl
noncomputable abbrev xQ1 : XI f_timer_Queue_1 := fun cargs σ0 => match cargs, σ0 with
  | [.s (.loc 0 0), .s (.loc 1 0), .s (.loc 2 0), .s (.loc 3 0)], [.blk 115 [.loc 4 0, .sl 5 0 0 0], .blk 26 cs, .blk 3 [.int .i64 p], .blk 35 [.sl 6 0 0 0], .blk 33 [.sl 7 0 k k'], .own 22 2 0 [], .own 21 1 0 [], .own 5 1 c xs] => withCore cs fun q hq =>
    some ⟨.ex (Ram × Option (List Int)) fun y => .ask (k = y.1.l.length ∧ k' = y.1.l.length ∧ c = y.1.l.length ∧ xs = bytesI y.1.l ∧ (q.ok ∧ (p = 0 ∨ p = 1)) ∧ tquL queN y.1 (q.tm (p == 1)) [] = y.2)
      (oQ1 q p y.1 y.2), fun K h => by
      obtain ⟨⟨m, r⟩, ⟨e1, e2, e3, e4, ⟨e8, e10⟩, e13⟩, h⟩ := h
      dsimp only at e1 e2 e3 e4 e8 e10 e13 h
      subst e1; subst e2; subst e3; subst e4; subst hq; subst e13
      exact Queue1_c m q p e8 e10 K h⟩
  | _, _ => none
def tryQ : Option (List Int) → Int
  | some _ => 0
  | none => 4
def oTQ (k : Core) (p : Int) (m : Ram) (s : Nat) (d : Ch) (L : List Int) (c : Nat) : List Ch := [.blk 33 [.sl 4 0 m.l.length m.l.length], .blk 26 k.sv, .blk 3 [.int .i64 p], .blk 35 [.sl s 0 L.length c], mOwn m.l, .dead, d]
theorem tryQ_c (m : Ram) (k : Core) (p : Int) (hok : k.ok) (hp : p = 0 ∨ p = 1) :
    Con Try.prog f_timer_try [.s (.loc 0 0), .clo (.func 35) [] [.loc 1 0, .loc 2 0, .loc 3 0]] [.blk 33 [.sl 4 0 m.l.length m.l.length], .blk 26 k.sv, .blk 3 [.int .i64 p], .blk 35 [.sl 5 0 0 0], mOwn m.l, .own 21 1 0 []]
    (match tquL queN m (k.tm (p == 1)) [] with
    | some L => .all Nat (fun c => L.length ≤ c ∧ (c = 0 → L = [])) fun c => .ret (.tup [.agg k.sv, .s (.int .i64 0)]) (oTQ k p m 6 (.own 21 1 c (qV L)) L c)
    | none => .all (List Int × Nat) (fun _ => True) fun x => .ret (.tup [.agg Core.zero.sv, .s (.int .i64 4)]) (oTQ k p m 6 (.own 21 1 x.2 (qV x.1)) x.1 x.2)) := by
  intro K hK
  refine enterDf fn_timer_try rfl nt_timer_try rfl rfl (fun φ w0 β0 F => ?_)
  refine c_run tt_ok (ct := []) trivial k_timer_try [13] 60 (by kernel_rfl) ?_
  show WpL _ _ _ _ _ _
  refine WpL.into (nilCell2 9 22 2 rfl) ?_
  refine l_defer rfl rfl rfl rfl rfl trivial rfl rfl (fun D hD => ?_)
  refine l_run tt_ok (ct := []) trivial k_timer_try [13] 60 (by kernel_rfl) (by kernel_rfl) ?_
  show WpL _ _ _ _ _ _
  rcases hI : tquL queN m (k.tm (p == 1)) [] with _ | L
  · rw [hI] at hK
    refine l_callX xQ1 cal_timer_Queue_1 rfl rfl rfl trivial rfl rfl rfl rfl rfl ?_
    refine ⟨(m, none), ⟨rfl, rfl, rfl, rfl, ⟨hok, hp⟩, hI⟩, fun x _ => ?_⟩
    refine e_run tt_ok (ct := []) trivial k_timer_try [] 60 (by kernel_rfl) ?_
    refine door (.panicking chR) hD rfl cal_timer_try_1 (.inr ⟨chT, rfl, rfl⟩) rfl (try1_L (C := .zero) (E := 0) (T := []) (cap := 0) [10, 6, 7, 8, 9, 0, 11, 4] (by decide) (Tp.refl 0 [] m) (by decide) rfl rfl) (fun τ hτ => ?_)
    subst hτ
    exact fin_k tt_ok (rs := rs_timer_try) rfl rfl (hK x trivial) [0, 1, 2, 3, 4, 5, 12] rfl rfl rfl rfl rfl rfl
  · rw [hI] at hK
    refine l_callX xQ1 cal_timer_Queue_1 rfl rfl rfl trivial rfl rfl rfl rfl rfl ?_
    refine ⟨(m, some L), ⟨rfl, rfl, rfl, rfl, ⟨hok, hp⟩, hI⟩, fun c hc => ?_⟩
    refine l_run tt_ok (ct := []) trivial k_timer_try [] 60 (by kernel_rfl) (by kernel_rfl) ?_
    refine door .returning hD rfl cal_timer_try_1 (.inl ⟨rfl, .inl rfl⟩) rfl (try1_D0 _ _ _ _ _) (fun τ hτ => ?_)
    subst hτ
    exact fin_k tt_ok (rs := rs_timer_try) rfl rfl (hK c hc) [0, 1, 2, 3, 4, 5, 12] rfl rfl rfl rfl rfl rfl
def oQ2 (k : Core) (p : Int) (m : Ram) : Option (List Int) → Out
  | some L => .all Nat (fun c => L.length ≤ c ∧ (c = 0 → L = [])) fun c => .ret (.tup [.agg k.sv, .s (.int .i64 0)]) (oTQ k p m 6 (.own 21 1 c (qV L)) L c)
  | none => .all (List Int × Nat) (fun _ => True) fun x => .ret (.tup [.agg Core.zero.sv, .s (.int .i64 4)]) (oTQ k p m 6 (.own 21 1 x.2 (qV x.1)) x.1 x.2)
noncomputable abbrev eTryQ : Ent := .st (conS (P := Try.prog) (f := f_timer_try) fun cargs σ0 => match cargs, σ0 with
  | [.s (.loc 0 0), .clo (.func 35) [] [.loc 1 0, .loc 2 0, .loc 3 0]], [.blk 33 [.sl 4 0 n n'], .blk 26 cs, .blk 3 [.int .i64 p], .blk 35 [.sl 5 0 0 0], .own 5 1 c xs, .own 21 1 0 []] => withCore cs fun q hq =>
    some ⟨.ex (Ram × Option (List Int)) fun y => .ask (n = y.1.l.length ∧ n' = y.1.l.length ∧ c = y.1.l.length ∧ xs = bytesI y.1.l ∧ (q.ok ∧ (p = 0 ∨ p = 1)) ∧ tquL queN y.1 (q.tm (p == 1)) [] = y.2)
      (oQ2 q p y.1 y.2), fun K h => by
      obtain ⟨⟨m, r⟩, ⟨e1, e2, e3, e4, ⟨e5, e7⟩, e8⟩, h⟩ := h
      dsimp only at e1 e2 e3 e4 e8 h
      subst e1; subst e2; subst e3; subst e4; subst hq
      refine tryQ_c m q p e5 e7 K ?_
      rw [e8]
      cases r <;> exact h⟩
  | _, _ => none)
def tqeE : Option (List Int) → List Int × Int
  | some L => (L, 0)
  | none => ([], 4)
def tqeR (k : Core) (m : Ram) (p : Int) : List Int × Int := bif !priB p then ([], 2) else tqeE (tquL queN m (k.tm (p == 1)) [])
noncomputable abbrev ctQu2 : CT := [(f_timer_check, eCheck), (f_timer_try, eTryQ)]
theorem ctQu2_ok : CTok Try.prog ctQu2 := ⟨con_ok cal_timer_check _, con_ok cal_timer_try _, trivial⟩
theorem tQueue_c (k : Core) (m : Ram) (p : Int) (hok : k.ok) (hp : -9223372036854775808 ≤ p ∧ p ≤ 9223372036854775807) : Con Try.prog f_timer_Queue [.agg k.sv, .s (.loc 0 0), .s (.int .i64 p)] [mBox m.l.length, mOwn m.l]
    (.all Nat (fun c => (tqeR k m p).1.length ≤ c ∧ (c = 0 → (tqeR k m p).1 = [])) fun c => .ret (.tup [.s (.sl 2 0 (tqeR k m p).1.length c), .s (.int .i64 (tqeR k m p).2)]) [mBox m.l.length, mOwn m.l, .own 21 1 c (qV (tqeR k m p).1)]) := by
  intro K hK
  refine enter fn_timer_Queue rfl nt_timer_Queue rfl rfl (fun φ w0 β0 F => ?_)
  refine c_run tt_ok ctQu2_ok k_timer_Queue [21] 60 (by kernel_rfl) ?_
  refine ⟨m, ⟨rfl, rfl, rfl, rfl, hp⟩, ?_⟩
  rcases hpb : priB p with _ | _
  · have hR : tqeR k m p = ([], 2) := by unfold tqeR; rw [hpb]; rfl
    rw [hR] at hK
    refine ⟨fun _ => ?_, fun h => absurd h (by decide)⟩
    refine WpE.into (nilSlot 6 21 1 rfl) ?_
    exact fin_k tt_ok (rs := rs_timer_Queue) rfl rfl (hK 0 ⟨Nat.le_refl _, fun _ => rfl⟩) [0, 1, 4] rfl rfl rfl rfl rfl rfl
  · refine ⟨fun h => absurd h (by decide), fun _ => ?_⟩
    show WpL _ _ _ _ _ _
    refine WpL.into (nilCell 4 21 1 rfl) ?_
    refine l_run tt_ok ctQu2_ok k_timer_Queue [] 60 (by kernel_rfl) (by kernel_rfl) ?_
    rcases hI : tquL queN m (k.tm (p == 1)) [] with _ | L
    · have hR : tqeR k m p = ([], 4) := by unfold tqeR; rw [hpb, hI]; rfl
      rw [hR] at hK
      refine ⟨(m, none), ⟨rfl, rfl, rfl, rfl, ⟨hok, priB_iff hpb⟩, hI⟩, fun x _ => ?_⟩
      refine ⟨fun _ => ?_, fun h => absurd h (by decide)⟩
      refine WpE.into (nilSlot 6 21 1 rfl) ?_
      exact fin_k tt_ok (rs := rs_timer_Queue) rfl rfl (hK 0 ⟨Nat.le_refl _, fun _ => rfl⟩) [0, 1, 8] rfl rfl rfl rfl rfl rfl
    · have hR : tqeR k m p = (L, 0) := by unfold tqeR; rw [hpb, hI]; rfl
      rw [hR] at hK
      refine ⟨(m, some L), ⟨rfl, rfl, rfl, rfl, ⟨hok, priB_iff hpb⟩, hI⟩, fun c hc => ?_⟩
      refine ⟨fun h => absurd h (by decide), fun _ => ?_⟩
      exact fin_k tt_ok (rs := rs_timer_Queue) rfl rfl (hK c hc) [0, 1, 6] rfl rfl rfl rfl rfl rfl
noncomputable abbrev eTQueue : Ent := .st (conS (P := Try.prog) (f := f_timer_Queue) fun cargs σ0 => match cargs, σ0 with
  | [.agg cs, .s (.loc 0 0), .s (.int .i64 d)], [.blk 33 [.sl 1 0 n n'], .own 5 1 c xs] => withCore cs fun k hk => some ⟨.ex (Ram × List Int × Int) fun p => .ask (n = p.1.l.length ∧ n' = p.1.l.length ∧ c = p.1.l.length ∧ xs = bytesI p.1.l ∧ (k.ok ∧ -9223372036854775808 ≤ d ∧ d ≤ 9223372036854775807) ∧ tqeR k p.1 d = p.2)
      (.all Nat (fun c => p.2.1.length ≤ c ∧ (c = 0 → p.2.1 = [])) fun c => .ret (.tup [.s (.sl 2 0 p.2.1.length c), .s (.int .i64 p.2.2)]) [mBox p.1.l.length, mOwn p.1.l, .own 21 1 c (qV p.2.1)]), fun K h => by
      obtain ⟨⟨m, L, e'⟩, ⟨e1, e2, e3, e4, h1, h2⟩, h⟩ := h
      dsimp only at e1 e2 e3 e4 h2 h
      subst e1; subst e2; subst e3; subst e4; subst hk
      refine tQueue_c k m d h1.1 h1.2 K ?_
      rw [h2]; exact h⟩
  | _, _ => none)
end Go.Proofs
