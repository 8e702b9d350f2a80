/- The tape's wake. -/
import Derived.Test.YtcjaggapamngmaaWalkE

namespace Go.Proofs
open Go Go.Sx
set_option maxRecDepth 10000
theorem setW_same {l : List Int} {i : Nat} {u : Int} (h : i + 4 ≤ l.length) (hu : ∀ k, k < 4 → byK u k = l.getD (i + k) 0) : setW l i u = l := by
  apply getD_ext (stW_length h 4 (by decide))
  intro j
  refine (stW_get (v := u) h 4 (by decide) j).trans ?_
  split
  · rw [hu _ (by omega)]; congr 1; omega
  · rfl
theorem set_same (m : Ram) (a : Int) : m.set a (m.word a) = m := by
  cases ha : wBad m a with
  | true => exact set_bad ha _
  | false =>
    apply Ram.ext
    rw [set_ok ha, word_eq ha]
    exact setW_same (wBad_nat ha) fun k hk => byK_word k hk
theorem app_mem (k : Core) (m : Ram) (d : Int) : (appR k m d).2.2 = m ∨ ((appR k m d).2.1 = 0 ∧ (k.fr (odd d) == NP) = false ∧ validB m (k.bk (odd d)) = true ∧ (appR k m d).2.2 = m.set (IntKind.i32.wrap (k.bk (odd d) + -8)) (wsp d)) := by
  unfold appR
  cases h1 : (bif !validB m (wsp d) then true else bif !(k.fr (odd d) == NP) then !validB m (k.bk (odd d)) else false)
  · cases h2 : (k.fr (odd d) == NP)
    · refine .inr ⟨rfl, rfl, ?_, rfl⟩
      rw [h2] at h1
      cases hv : validB m (wsp d) <;> cases hb : validB m (k.bk (odd d)) <;> rw [hv, hb] at h1 <;> simp at h1 ⊢
    · exact .inl rfl
  · exact .inl rfl
def wakE : Core × Int × Ram → Option (Core × Ram)
  | (k', e, m') => bif e == 0 then some (k', m') else none
def wakR (k : Core) (m : Ram) (p : Int) : Option (Core × Ram) :=
  bif ((m.set (IntKind.i32.wrap (k.tm (p == 1) + -16)) tSet).set (IntKind.i32.wrap (k.tm (p == 1) + -20)) (k.ck (p == 1))).word (IntKind.i32.wrap (k.tm (p == 1) + -12)) != -2147483646
  then some (k.setT (p == 1) (m.word (IntKind.i32.wrap (k.tm (p == 1) + -16))), (m.set (IntKind.i32.wrap (k.tm (p == 1) + -16)) tSet).set (IntKind.i32.wrap (k.tm (p == 1) + -20)) (k.ck (p == 1)))
  else wakE (appR (k.setT (p == 1) (m.word (IntKind.i32.wrap (k.tm (p == 1) + -16)))) (((m.set (IntKind.i32.wrap (k.tm (p == 1) + -16)) tSet).set (IntKind.i32.wrap (k.tm (p == 1) + -20)) (k.ck (p == 1))).set (IntKind.i32.wrap (k.tm (p == 1) + -12)) (-2147483645)) (IntKind.i32.wrap (k.tm (p == 1) + IntKind.i32.wrap p)))
theorem wak_d {w p : Int} (hw : I32 w) (h4 : w % 4 = 0) (hp : p = 0 ∨ p = 1) : odd (IntKind.i32.wrap (w + IntKind.i32.wrap p)) = (p == 1) ∧ wsp (IntKind.i32.wrap (w + IntKind.i32.wrap p)) = w := by
  unfold I32 at hw
  rcases hp with rfl | rfl
  · have e : IntKind.i32.wrap (w + IntKind.i32.wrap 0) = w := by rw [IntKind.wrap_i32, IntKind.wrap_i32]; omega
    rw [e]; unfold odd wsp; refine ⟨?_, by omega⟩; simp; omega
  · have e : IntKind.i32.wrap (w + IntKind.i32.wrap 1) = w + 1 := by rw [IntKind.wrap_i32, IntKind.wrap_i32]; omega
    rw [e]; unfold odd wsp; refine ⟨?_, by omega⟩; simp; omega
theorem valid_four' {m : Ram} {w : Int} (h : validB m w = true) : w % 4 = 0 := by
  unfold validB at h
  by_cases h4 : w % 4 = 0
  · exact h4
  · rw [show (w % 4 == 0) = false by simpa using h4] at h; cases h
noncomputable abbrev eTse : Ent := .st (conS (P := Try.prog) (f := f_timer_tape_set) fun cargs σ0 => match cargs, σ0 with
  | [.s (.loc 0 0), .s (.int .i32 w), .s (.int .i32 kk), .s (.int .i32 v)], [.blk 115 [.loc 1 0, .sl 2 0 n cap], .blk 33 [.sl 3 0 k k'], .own 22 2 cap' ys, .own 5 1 c xs] =>
    some ⟨.ex (List (Int × Int) × Ram × Int × Ram) fun p => .ask (n = p.1.length ∧ cap' = cap ∧ ys = tapV p.1 ∧ k = p.2.1.l.length ∧ k' = p.2.1.l.length ∧ c = p.2.1.l.length ∧ xs = bytesI p.2.1.l ∧ p.2.2.1 = IntKind.i32.wrap (w + IntKind.i32.wrap (4 * kk)) ∧ (p.1.length ≤ 20000 ∧ p.1.length ≤ cap) ∧ p.2.1.set p.2.2.1 v = p.2.2.2)
      (oT (.tup []) 1 p.1 p.2.1 p.2.2.2), fun K h => by
      obtain ⟨⟨T, m, ad, m'⟩, ⟨e1, e2, e3, e4, e5, e6, e7, e8, ⟨e9, e10⟩, e11⟩, h⟩ := h
      dsimp only at e1 e2 e3 e4 e5 e6 e7 e8 e9 e10 e11 h
      subst e1; subst e2; subst e3; subst e4; subst e5; subst e6; subst e7; subst e11
      exact setP_c T m _ w kk v ad e8 e9 e10 K h⟩
  | _, _ => none)
noncomputable abbrev eTsu : Ent := .st (conS (P := Try.prog) (f := f_timer_tape_set) fun cargs σ0 => match cargs, σ0 with
  | [.s (.loc 0 0), .s (.int .i32 w), .s (.int .i32 kk), .s (.int .i32 v)], [.blk 115 [.loc 1 0, .sl 2 0 n cap], .blk 33 [.sl 3 0 k k'], .own 22 2 cap' ys, .own 5 1 c xs] =>
    some ⟨.ex (List (Int × Int) × Ram × Int × Ram × List (Int × Int)) fun p => .ask (n = p.1.length ∧ cap' = cap ∧ ys = tapV p.1 ∧ k = p.2.1.l.length ∧ k' = p.2.1.l.length ∧ c = p.2.1.l.length ∧ xs = bytesI p.2.1.l ∧ p.2.2.1 = IntKind.i32.wrap (w + IntKind.i32.wrap (4 * kk)) ∧ (p.1.length ≤ 20000 ∧ p.1.length ≤ cap) ∧ p.2.1.set p.2.2.1 v = p.2.2.2.1 ∧ p.1 ++ [(p.2.2.1, p.2.1.word p.2.2.1)] = p.2.2.2.2)
      (.all Nat (fun c => p.2.2.2.2.length ≤ c) fun c => .ret (.tup []) [tT 4 p.2.2.2.2.length c, tB p.2.2.2.1.l.length, .dead, mOwn p.2.2.2.1.l, tR c p.2.2.2.2]), fun K h => by
      obtain ⟨⟨T, m, ad, m', T'⟩, ⟨e1, e2, e3, e4, e5, e6, e7, e8, ⟨e9, e10⟩, e11, e12⟩, h⟩ := h
      dsimp only at e1 e2 e3 e4 e5 e6 e7 e8 e9 e10 e11 e12 h
      subst e1; subst e2; subst e3; subst e4; subst e5; subst e6; subst e7; subst e11; subst e12
      refine set_c T m _ w kk v ad e8 e9 e10 K fun c hc' => ?_
      have this : K (.tup []) [tT 4 (T ++ [(ad, m.word ad)]).length c, tB (m.set ad v).l.length, .dead, mOwn (m.set ad v).l, tR c (T ++ [(ad, m.word ad)])] := h c (by simpa using hc')
      rw [List.length_append] at this
      exact this⟩
  | _, _ => none)
noncomputable abbrev ctWa : CT := [(f_timer_tape_set, eTse), (f_timer_tape_get, in_timer_tape_get ctWo), (f_timer_valid, eTval), (f_sched_Append, eAppend)]
theorem ctWa_ok : CTok Try.prog ctWa := ⟨con_ok cal_timer_tape_set _, in_timer_tape_get_ok ctWo_ok, con_ok cal_timer_valid _, con_ok cal_sched_Append _, trivial⟩
noncomputable abbrev ctWb : CT := [(f_timer_tape_set, eTsu), (f_timer_tape_get, in_timer_tape_get ctWo), (f_timer_valid, eTval), (f_sched_Append, eAppend)]
theorem ctWb_ok : CTok Try.prog ctWb := ⟨con_ok cal_timer_tape_set _, in_timer_tape_get_ok ctWo_ok, con_ok cal_timer_valid _, con_ok cal_sched_Append _, trivial⟩
set_option maxHeartbeats 4000000 in
theorem wake_c (T : List (Int × Int)) (m : Ram) (cap : Nat) (k : Core) (p : Int) (hok : k.ok) (hp : p = 0 ∨ p = 1) (hv : validB m (k.tm (p == 1)) = true) (hT : T.length ≤ 19990) (hc : T.length ≤ cap) :
    ConX Try.prog chT f_timer_tape_wake [.s (.loc 0 0), .agg k.sv, .s (.int .i64 p)] [tT 2 T.length cap, tB m.l.length, tR cap T, mOwn m.l]
    (oX 5 T m (wakR k m p)) := by
  intro K hK
  obtain ⟨R, hR⟩ : ∃ R, wakR k m p = R := ⟨_, rfl⟩
  rw [hR] at hK
  unfold wakR at hR
  rcases hp with rfl | rfl
  · rw [show k.tm ((0 : Int) == 1) = k.t0 from rfl, show k.ck ((0 : Int) == 1) = k.k0 from rfl] at hR
    replace hv : validB m k.t0 = true := hv
    obtain ⟨hodd, hwsp⟩ := wak_d hok.t0 (valid_four' hv) (p := 0) (by decide)
    obtain ⟨m1, hm1⟩ : ∃ m1, m.set (IntKind.i32.wrap (k.t0 + -16)) tSet = m1 := ⟨_, rfl⟩
    obtain ⟨m2, hm2⟩ : ∃ m2, m1.set (IntKind.i32.wrap (k.t0 + -20)) k.k0 = m2 := ⟨_, rfl⟩
    obtain ⟨m3, hm3⟩ : ∃ m3, m2.set (IntKind.i32.wrap (k.t0 + -12)) (-2147483645) = m3 := ⟨_, rfl⟩
    rw [hm1, hm2, hm3] at hR
    have hDI : I32 (IntKind.i32.wrap (k.t0 + IntKind.i32.wrap 0)) := I32_wrap _
    have hok1 : (k.setT false (m.word (IntKind.i32.wrap (k.t0 + -16)))).ok := Core.setT_ok hok _ (word_I32 _ _)
    obtain ⟨⟨k', e, m'⟩, hA⟩ : ∃ r, appR (k.setT false (m.word (IntKind.i32.wrap (k.t0 + -16)))) m3 (IntKind.i32.wrap (k.t0 + IntKind.i32.wrap 0)) = r := ⟨_, rfl⟩
    have happ := app_mem (k.setT false (m.word (IntKind.i32.wrap (k.t0 + -16)))) m3 (IntKind.i32.wrap (k.t0 + IntKind.i32.wrap 0))
    rw [hA, hodd, hwsp] at happ
    replace happ : m' = m3 ∨ (e = 0 ∧ (k.f0 == NP) = false ∧ validB m3 k.b0 = true ∧ m' = m3.set (IntKind.i32.wrap (k.b0 + -8)) k.t0) := happ
    rw [show ((0 : Int) == 1) = false from rfl, hA] at hR
    refine enterX fn_timer_tape_wake rfl nt_timer_tape_wake rfl rfl (fun φ w0 β0 F => ?_)
    refine c_run tt_ok ctWa_ok k_timer_tape_wake [] 90 (by kernel_rfl) ?_
    refine ⟨m, ⟨rfl, rfl, rfl, rfl, I32_wrap _⟩, ?_⟩
    refine ⟨(T, m, IntKind.i32.wrap (k.t0 + -16), m1), ⟨rfl, rfl, rfl, rfl, rfl, rfl, rfl, rfl, ⟨by dsimp only; omega, hc⟩, hm1⟩, fun x hx => ?_⟩
    refine ⟨(x.1, m1, IntKind.i32.wrap (k.t0 + -20), m2), ⟨rfl, rfl, rfl, rfl, rfl, rfl, rfl, rfl, ⟨by have := hx.1.len; dsimp only at this ⊢; omega, hx.2⟩, hm2⟩, fun y hy => ?_⟩
    refine ⟨m2, ⟨rfl, rfl, rfl, rfl, I32_wrap _⟩, fun h1 => ?_, fun h1 => ?_⟩
    · rw [show (m2.word (IntKind.i32.wrap (k.t0 + -12)) != -2147483646) = true from h1, cond_true] at hR
      subst hR
      exact fin_kX tt_ok (rs := rs_timer_tape_wake) rfl rfl (hK y ⟨(hx.1.trans hy.1).mono (by decide), hy.2⟩) [0, 1, 2, 3, 7] rfl rfl rfl rfl rfl rfl rfl
    · rw [show (m2.word (IntKind.i32.wrap (k.t0 + -12)) != -2147483646) = false from h1, cond_false] at hR
      refine ⟨(y.1, m2, IntKind.i32.wrap (k.t0 + -12), m3), ⟨rfl, rfl, rfl, rfl, rfl, rfl, rfl, rfl, ⟨by have := hx.1.len; have := hy.1.len; dsimp only at *; omega, hy.2⟩, hm3⟩, fun z hz => ?_⟩
      have hT3 : Tp 3 T m z.1 m3 := (hx.1.trans hy.1).trans hz.1
      show WpC _ _ _ _ _
      rcases hf : (k.f0 != NP) with _ | _
      all_goals
        refine c_waysH tt_ok ctWa_ok k_timer_tape_wake [4] rfl rfl rfl ?_
        repeat' (first | exact trivial | exact hf | exact ⟨rfl, trivial⟩ | (intro h; exact absurd (h.symm.trans hf) (by decide)) | (refine Exists.intro m3 ?_; refine And.intro ⟨rfl, rfl, rfl, rfl, hok.b0⟩ ?_) | (refine And.intro ?_ ?_) | (refine fun _ => ?_))
        all_goals refine e_run tt_ok ctWb_ok k_timer_tape_wake [] 60 (by kernel_rfl) ?_
      · refine ⟨fun h => absurd h (by decide), fun _ => ?_⟩
        have hmm : m' = m3 := by
          rcases happ with h | h
          · exact h
          · exact absurd (show (k.f0 != NP) = true by simpa [bne] using h.2.1) (by rw [hf]; decide)
        show WpC _ _ _ _ _
        refine c_waysH tt_ok ctWb_ok k_timer_tape_wake [] rfl rfl rfl ?_
        repeat' (first | exact trivial | (refine Exists.intro (m3, k', e, m') ?_; refine And.intro ⟨rfl, rfl, rfl, rfl, ⟨hok1, hDI⟩, hA⟩ ?_) | (refine And.intro ?_ ?_) | (refine fun _ => ?_))
        all_goals
          refine e_run tt_ok ctWb_ok k_timer_tape_wake [] 60 (by kernel_rfl) ?_
          refine ⟨fun h6 => ?_, fun h6 => ?_⟩
          · have h6' : (e == 0) = false := by simpa using h6
            rw [wakE, h6', cond_false] at hR
            subst hR
            have hm' : m' = m3 := by
              rcases happ with h | h
              · exact h
              · exact absurd h.1 (by simpa using h6')
            subst hm'
            refine l_iface rfl rfl trivial rfl rfl rfl rfl rfl ?_
            refine l_panic rfl trivial rfl ?_
            refine e_run tt_ok ctWb_ok k_timer_tape_wake [] 60 (by kernel_rfl) ?_
            exact fin_pan (hK (z.1, z.2, m') ⟨hT3.mono (by decide), hz.2⟩) [0, 1, 2, 3, 8] rfl rfl rfl rfl
          · have h6' : (e == 0) = true := by simpa using h6
            rw [wakE, h6', cond_true] at hR
            subst hR
            exact fin_kX tt_ok (rs := rs_timer_tape_wake) rfl rfl (hK (z.1, z.2) ⟨hmm ▸ hT3.mono (by decide), hz.2⟩) [0, 1, 2, 3, 8] rfl rfl rfl rfl rfl rfl rfl
      · refine ⟨fun h5 => ?_, fun h5 => ?_⟩
        · have h5' : (bif k.f0 != NP then validB m3 k.b0 else false) = true := h5
          rw [hf, cond_true] at h5'
          show WpC _ _ _ _ _
          obtain ⟨Z, hZ⟩ : ∃ Z, z.1 ++ [(IntKind.i32.wrap (k.b0 + -8), m3.word (IntKind.i32.wrap (k.b0 + -8)))] = Z := ⟨_, rfl⟩
          have hZ3 : Tp 4 T m Z m3 := by
            have := Tp.set z.1 m3 (I32_wrap (k.b0 + -8)) (v := m3.word (IntKind.i32.wrap (k.b0 + -8)))
            rw [set_same, hZ] at this
            exact hT3.trans this
          have hZ4 : Tp 4 T m Z m' := by
            rcases happ with h | h
            · rw [h]; exact hZ3
            · rw [h.2.2.2]
              have := Tp.set z.1 m3 (I32_wrap (k.b0 + -8)) (v := k.t0)
              rw [hZ] at this
              exact hT3.trans this
          refine c_waysH tt_ok ctWb_ok k_timer_tape_wake [4] rfl rfl rfl ?_
          repeat' (first | exact trivial | exact ⟨rfl, trivial⟩ | (refine Exists.intro m3 ?_; refine And.intro ⟨rfl, rfl, rfl, rfl, I32_wrap _⟩ ?_) | (refine Exists.intro (z.1, m3, IntKind.i32.wrap (k.b0 + -8), m3, Z) ?_; refine And.intro ⟨rfl, rfl, rfl, rfl, rfl, rfl, rfl, rfl, ⟨by have := hT3.len; dsimp only; omega, hz.2⟩, set_same _ _, hZ⟩ ?_) | (refine And.intro ?_ ?_) | (refine fun _ => ?_))
          rename_i zc hzc
          refine e_run tt_ok ctWb_ok k_timer_tape_wake [] 60 (by kernel_rfl) ?_
          show WpC _ _ _ _ _
          refine c_waysH tt_ok ctWb_ok k_timer_tape_wake [] rfl rfl rfl ?_
          repeat' (first | exact trivial | (refine Exists.intro (m3, k', e, m') ?_; refine And.intro ⟨rfl, rfl, rfl, rfl, ⟨hok1, hDI⟩, hA⟩ ?_) | (refine And.intro ?_ ?_) | (refine fun _ => ?_))
          all_goals
            refine e_run tt_ok ctWb_ok k_timer_tape_wake [] 60 (by kernel_rfl) ?_
            refine ⟨fun h6 => ?_, fun h6 => ?_⟩
            · have h6' : (e == 0) = false := by simpa using h6
              rw [wakE, h6', cond_false] at hR
              subst hR
              have hm' : m' = m3 := by
                rcases happ with h | h
                · exact h
                · exact absurd h.1 (by simpa using h6')
              subst hm'
              refine l_iface rfl rfl trivial rfl rfl rfl rfl rfl ?_
              refine l_panic rfl trivial rfl ?_
              refine e_run tt_ok ctWb_ok k_timer_tape_wake [] 60 (by kernel_rfl) ?_
              exact fin_pan (hK (Z, zc, m') ⟨hZ3.mono (by decide), hzc⟩) [0, 1, 2, 3, 9] rfl rfl rfl rfl
            · have h6' : (e == 0) = true := by simpa using h6
              rw [wakE, h6', cond_true] at hR
              subst hR
              exact fin_kX tt_ok (rs := rs_timer_tape_wake) rfl rfl (hK (Z, zc) ⟨hZ4.mono (by decide), hzc⟩) [0, 1, 2, 3, 9] rfl rfl rfl rfl rfl rfl rfl
        · have h5' : (bif k.f0 != NP then validB m3 k.b0 else false) = false := h5
          rw [hf, cond_true] at h5'
          have hmm : m' = m3 := by
            rcases happ with h | h
            · exact h
            · exact absurd (h.2.2.1.symm.trans h5') (by decide)
          show WpC _ _ _ _ _
          refine c_waysH tt_ok ctWb_ok k_timer_tape_wake [] rfl rfl rfl ?_
          repeat' (first | exact trivial | (refine Exists.intro (m3, k', e, m') ?_; refine And.intro ⟨rfl, rfl, rfl, rfl, ⟨hok1, hDI⟩, hA⟩ ?_) | (refine And.intro ?_ ?_) | (refine fun _ => ?_))
          all_goals
            refine e_run tt_ok ctWb_ok k_timer_tape_wake [] 60 (by kernel_rfl) ?_
            refine ⟨fun h6 => ?_, fun h6 => ?_⟩
            · have h6' : (e == 0) = false := by simpa using h6
              rw [wakE, h6', cond_false] at hR
              subst hR
              have hm' : m' = m3 := by
                rcases happ with h | h
                · exact h
                · exact absurd h.1 (by simpa using h6')
              subst hm'
              refine l_iface rfl rfl trivial rfl rfl rfl rfl rfl ?_
              refine l_panic rfl trivial rfl ?_
              refine e_run tt_ok ctWb_ok k_timer_tape_wake [] 60 (by kernel_rfl) ?_
              exact fin_pan (hK (z.1, z.2, m') ⟨hT3.mono (by decide), hz.2⟩) [0, 1, 2, 3, 8] rfl rfl rfl rfl
            · have h6' : (e == 0) = true := by simpa using h6
              rw [wakE, h6', cond_true] at hR
              subst hR
              exact fin_kX tt_ok (rs := rs_timer_tape_wake) rfl rfl (hK (z.1, z.2) ⟨hmm ▸ hT3.mono (by decide), hz.2⟩) [0, 1, 2, 3, 8] rfl rfl rfl rfl rfl rfl rfl
  · rw [show k.tm ((1 : Int) == 1) = k.t1 from rfl, show k.ck ((1 : Int) == 1) = k.k1 from rfl] at hR
    replace hv : validB m k.t1 = true := hv
    obtain ⟨hodd, hwsp⟩ := wak_d hok.t1 (valid_four' hv) (p := 1) (by decide)
    obtain ⟨m1, hm1⟩ : ∃ m1, m.set (IntKind.i32.wrap (k.t1 + -16)) tSet = m1 := ⟨_, rfl⟩
    obtain ⟨m2, hm2⟩ : ∃ m2, m1.set (IntKind.i32.wrap (k.t1 + -20)) k.k1 = m2 := ⟨_, rfl⟩
    obtain ⟨m3, hm3⟩ : ∃ m3, m2.set (IntKind.i32.wrap (k.t1 + -12)) (-2147483645) = m3 := ⟨_, rfl⟩
    rw [hm1, hm2, hm3] at hR
    have hDI : I32 (IntKind.i32.wrap (k.t1 + IntKind.i32.wrap 1)) := I32_wrap _
    have hok1 : (k.setT true (m.word (IntKind.i32.wrap (k.t1 + -16)))).ok := Core.setT_ok hok _ (word_I32 _ _)
    obtain ⟨⟨k', e, m'⟩, hA⟩ : ∃ r, appR (k.setT true (m.word (IntKind.i32.wrap (k.t1 + -16)))) m3 (IntKind.i32.wrap (k.t1 + IntKind.i32.wrap 1)) = r := ⟨_, rfl⟩
    have happ := app_mem (k.setT true (m.word (IntKind.i32.wrap (k.t1 + -16)))) m3 (IntKind.i32.wrap (k.t1 + IntKind.i32.wrap 1))
    rw [hA, hodd, hwsp] at happ
    replace happ : m' = m3 ∨ (e = 0 ∧ (k.f1 == NP) = false ∧ validB m3 k.b1 = true ∧ m' = m3.set (IntKind.i32.wrap (k.b1 + -8)) k.t1) := happ
    rw [show ((1 : Int) == 1) = true from rfl, hA] at hR
    refine enterX fn_timer_tape_wake rfl nt_timer_tape_wake rfl rfl (fun φ w0 β0 F => ?_)
    refine c_run tt_ok ctWa_ok k_timer_tape_wake [] 90 (by kernel_rfl) ?_
    refine ⟨m, ⟨rfl, rfl, rfl, rfl, I32_wrap _⟩, ?_⟩
    refine ⟨(T, m, IntKind.i32.wrap (k.t1 + -16), m1), ⟨rfl, rfl, rfl, rfl, rfl, rfl, rfl, rfl, ⟨by dsimp only; omega, hc⟩, hm1⟩, fun x hx => ?_⟩
    refine ⟨(x.1, m1, IntKind.i32.wrap (k.t1 + -20), m2), ⟨rfl, rfl, rfl, rfl, rfl, rfl, rfl, rfl, ⟨by have := hx.1.len; dsimp only at this ⊢; omega, hx.2⟩, hm2⟩, fun y hy => ?_⟩
    refine ⟨m2, ⟨rfl, rfl, rfl, rfl, I32_wrap _⟩, fun h1 => ?_, fun h1 => ?_⟩
    · rw [show (m2.word (IntKind.i32.wrap (k.t1 + -12)) != -2147483646) = true from h1, cond_true] at hR
      subst hR
      exact fin_kX tt_ok (rs := rs_timer_tape_wake) rfl rfl (hK y ⟨(hx.1.trans hy.1).mono (by decide), hy.2⟩) [0, 1, 2, 3, 7] rfl rfl rfl rfl rfl rfl rfl
    · rw [show (m2.word (IntKind.i32.wrap (k.t1 + -12)) != -2147483646) = false from h1, cond_false] at hR
      refine ⟨(y.1, m2, IntKind.i32.wrap (k.t1 + -12), m3), ⟨rfl, rfl, rfl, rfl, rfl, rfl, rfl, rfl, ⟨by have := hx.1.len; have := hy.1.len; dsimp only at *; omega, hy.2⟩, hm3⟩, fun z hz => ?_⟩
      have hT3 : Tp 3 T m z.1 m3 := (hx.1.trans hy.1).trans hz.1
      show WpC _ _ _ _ _
      rcases hf : (k.f1 != NP) with _ | _
      all_goals
        refine c_waysH tt_ok ctWa_ok k_timer_tape_wake [4] rfl rfl rfl ?_
        repeat' (first | exact trivial | exact hf | exact ⟨rfl, trivial⟩ | (intro h; exact absurd (h.symm.trans hf) (by decide)) | (refine Exists.intro m3 ?_; refine And.intro ⟨rfl, rfl, rfl, rfl, hok.b1⟩ ?_) | (refine And.intro ?_ ?_) | (refine fun _ => ?_))
        all_goals refine e_run tt_ok ctWb_ok k_timer_tape_wake [] 60 (by kernel_rfl) ?_
      · refine ⟨fun h => absurd h (by decide), fun _ => ?_⟩
        have hmm : m' = m3 := by
          rcases happ with h | h
          · exact h
          · exact absurd (show (k.f1 != NP) = true by simpa [bne] using h.2.1) (by rw [hf]; decide)
        show WpC _ _ _ _ _
        refine c_waysH tt_ok ctWb_ok k_timer_tape_wake [] rfl rfl rfl ?_
        repeat' (first | exact trivial | (refine Exists.intro (m3, k', e, m') ?_; refine And.intro ⟨rfl, rfl, rfl, rfl, ⟨hok1, hDI⟩, hA⟩ ?_) | (refine And.intro ?_ ?_) | (refine fun _ => ?_))
        all_goals
          refine e_run tt_ok ctWb_ok k_timer_tape_wake [] 60 (by kernel_rfl) ?_
          refine ⟨fun h6 => ?_, fun h6 => ?_⟩
          · have h6' : (e == 0) = false := by simpa using h6
            rw [wakE, h6', cond_false] at hR
            subst hR
            have hm' : m' = m3 := by
              rcases happ with h | h
              · exact h
              · exact absurd h.1 (by simpa using h6')
            subst hm'
            refine l_iface rfl rfl trivial rfl rfl rfl rfl rfl ?_
            refine l_panic rfl trivial rfl ?_
            refine e_run tt_ok ctWb_ok k_timer_tape_wake [] 60 (by kernel_rfl) ?_
            exact fin_pan (hK (z.1, z.2, m') ⟨hT3.mono (by decide), hz.2⟩) [0, 1, 2, 3, 8] rfl rfl rfl rfl
          · have h6' : (e == 0) = true := by simpa using h6
            rw [wakE, h6', cond_true] at hR
            subst hR
            exact fin_kX tt_ok (rs := rs_timer_tape_wake) rfl rfl (hK (z.1, z.2) ⟨hmm ▸ hT3.mono (by decide), hz.2⟩) [0, 1, 2, 3, 8] rfl rfl rfl rfl rfl rfl rfl
      · refine ⟨fun h5 => ?_, fun h5 => ?_⟩
        · have h5' : (bif k.f1 != NP then validB m3 k.b1 else false) = true := h5
          rw [hf, cond_true] at h5'
          show WpC _ _ _ _ _
          obtain ⟨Z, hZ⟩ : ∃ Z, z.1 ++ [(IntKind.i32.wrap (k.b1 + -8), m3.word (IntKind.i32.wrap (k.b1 + -8)))] = Z := ⟨_, rfl⟩
          have hZ3 : Tp 4 T m Z m3 := by
            have := Tp.set z.1 m3 (I32_wrap (k.b1 + -8)) (v := m3.word (IntKind.i32.wrap (k.b1 + -8)))
            rw [set_same, hZ] at this
            exact hT3.trans this
          have hZ4 : Tp 4 T m Z m' := by
            rcases happ with h | h
            · rw [h]; exact hZ3
            · rw [h.2.2.2]
              have := Tp.set z.1 m3 (I32_wrap (k.b1 + -8)) (v := k.t1)
              rw [hZ] at this
              exact hT3.trans this
          refine c_waysH tt_ok ctWb_ok k_timer_tape_wake [4] rfl rfl rfl ?_
          repeat' (first | exact trivial | exact ⟨rfl, trivial⟩ | (refine Exists.intro m3 ?_; refine And.intro ⟨rfl, rfl, rfl, rfl, I32_wrap _⟩ ?_) | (refine Exists.intro (z.1, m3, IntKind.i32.wrap (k.b1 + -8), m3, Z) ?_; refine And.intro ⟨rfl, rfl, rfl, rfl, rfl, rfl, rfl, rfl, ⟨by have := hT3.len; dsimp only; omega, hz.2⟩, set_same _ _, hZ⟩ ?_) | (refine And.intro ?_ ?_) | (refine fun _ => ?_))
          rename_i zc hzc
          refine e_run tt_ok ctWb_ok k_timer_tape_wake [] 60 (by kernel_rfl) ?_
          show WpC _ _ _ _ _
          refine c_waysH tt_ok ctWb_ok k_timer_tape_wake [] rfl rfl rfl ?_
          repeat' (first | exact trivial | (refine Exists.intro (m3, k', e, m') ?_; refine And.intro ⟨rfl, rfl, rfl, rfl, ⟨hok1, hDI⟩, hA⟩ ?_) | (refine And.intro ?_ ?_) | (refine fun _ => ?_))
          all_goals
            refine e_run tt_ok ctWb_ok k_timer_tape_wake [] 60 (by kernel_rfl) ?_
            refine ⟨fun h6 => ?_, fun h6 => ?_⟩
            · have h6' : (e == 0) = false := by simpa using h6
              rw [wakE, h6', cond_false] at hR
              subst hR
              have hm' : m' = m3 := by
                rcases happ with h | h
                · exact h
                · exact absurd h.1 (by simpa using h6')
              subst hm'
              refine l_iface rfl rfl trivial rfl rfl rfl rfl rfl ?_
              refine l_panic rfl trivial rfl ?_
              refine e_run tt_ok ctWb_ok k_timer_tape_wake [] 60 (by kernel_rfl) ?_
              exact fin_pan (hK (Z, zc, m') ⟨hZ3.mono (by decide), hzc⟩) [0, 1, 2, 3, 9] rfl rfl rfl rfl
            · have h6' : (e == 0) = true := by simpa using h6
              rw [wakE, h6', cond_true] at hR
              subst hR
              exact fin_kX tt_ok (rs := rs_timer_tape_wake) rfl rfl (hK (Z, zc) ⟨hZ4.mono (by decide), hzc⟩) [0, 1, 2, 3, 9] rfl rfl rfl rfl rfl rfl rfl
        · have h5' : (bif k.f1 != NP then validB m3 k.b1 else false) = false := h5
          rw [hf, cond_true] at h5'
          have hmm : m' = m3 := by
            rcases happ with h | h
            · exact h
            · exact absurd (h.2.2.1.symm.trans h5') (by decide)
          show WpC _ _ _ _ _
          refine c_waysH tt_ok ctWb_ok k_timer_tape_wake [] rfl rfl rfl ?_
          repeat' (first | exact trivial | (refine Exists.intro (m3, k', e, m') ?_; refine And.intro ⟨rfl, rfl, rfl, rfl, ⟨hok1, hDI⟩, hA⟩ ?_) | (refine And.intro ?_ ?_) | (refine fun _ => ?_))
          all_goals
            refine e_run tt_ok ctWb_ok k_timer_tape_wake [] 60 (by kernel_rfl) ?_
            refine ⟨fun h6 => ?_, fun h6 => ?_⟩
            · have h6' : (e == 0) = false := by simpa using h6
              rw [wakE, h6', cond_false] at hR
              subst hR
              have hm' : m' = m3 := by
                rcases happ with h | h
                · exact h
                · exact absurd h.1 (by simpa using h6')
              subst hm'
              refine l_iface rfl rfl trivial rfl rfl rfl rfl rfl ?_
              refine l_panic rfl trivial rfl ?_
              refine e_run tt_ok ctWb_ok k_timer_tape_wake [] 60 (by kernel_rfl) ?_
              exact fin_pan (hK (z.1, z.2, m') ⟨hT3.mono (by decide), hz.2⟩) [0, 1, 2, 3, 8] rfl rfl rfl rfl
            · have h6' : (e == 0) = true := by simpa using h6
              rw [wakE, h6', cond_true] at hR
              subst hR
              exact fin_kX tt_ok (rs := rs_timer_tape_wake) rfl rfl (hK (z.1, z.2) ⟨hmm ▸ hT3.mono (by decide), hz.2⟩) [0, 1, 2, 3, 8] rfl rfl rfl rfl rfl rfl rfl
noncomputable abbrev xWak : XI f_timer_tape_wake := fun cargs σ0 => match cargs, σ0 with
  | [.s (.loc 0 0), .agg cs, .s (.int .i64 p)], [.blk 115 [.loc 1 0, .sl 2 0 n cap], .blk 33 [.sl 3 0 k k'], .own 22 2 cap' ys, .own 5 1 c xs] => withCore cs fun q hq =>
    some ⟨.ex (List (Int × Int) × Ram × Option (Core × Ram)) fun y => .ask (n = y.1.length ∧ cap' = cap ∧ ys = tapV y.1 ∧ k = y.2.1.l.length ∧ k' = y.2.1.l.length ∧ c = y.2.1.l.length ∧ xs = bytesI y.2.1.l ∧ (q.ok ∧ (p = 0 ∨ p = 1) ∧ validB y.2.1 (q.tm (p == 1)) = true ∧ y.1.length ≤ 19990 ∧ y.1.length ≤ cap) ∧ wakR q y.2.1 p = y.2.2)
      (oX 5 y.1 y.2.1 y.2.2), fun K h => by
      obtain ⟨⟨T, m, r⟩, ⟨e1, e2, e3, e4, e5, e6, e7, ⟨e8, e9, e10, e11, e12⟩, e13⟩, h⟩ := h
      dsimp only at e1 e2 e3 e4 e5 e6 e7 e8 e9 e10 e11 e12 e13 h
      subst e1; subst e2; subst e3; subst e4; subst e5; subst e6; subst e7; subst hq; subst e13
      exact wake_c T m _ q p e8 e9 e10 e11 e12 K h⟩
  | _, _ => none
end Go.Proofs

namespace Go.Sx
open Go
theorem frameOf_rep' {P : Program} {args : List TV} {σ0 : List Ch} {n : Nat} {fe : Md} {β : Nat → Bd} {φ : Heap} {w : World} {r : Array Value} (hn : args.length + r.size = n) (hargs : allB (TV.wfB σ0.length) args = true) (hs : Sat β σ0 φ w) :
    Rep ⟨P, n, φ, w, σ0.length, β, Feet β σ0, fe, []⟩ β (frameOf 0 args) σ0 { tmps := (args.map (TV.den β)).toArray ++ r, defers := [] } w := by
  refine ⟨rfl, ?_, ?_, ?_, hs, Same.refl w, fun _ _ => rfl, Nat.le_refl _, fun l d hd g hg => .inl ⟨l, d, hd, hg⟩⟩
  · simp [hn]
  · intro d v g hl
    obtain ⟨rfl, u, hu, _, rfl⟩ := look_frameOf hl
    simp only [Nat.sub_zero] at hu
    have hd := (List.getElem?_eq_some_iff.1 hu).1
    rw [Array.getElem?_append_left (by simpa using hd)]
    simp [hu, FV.den]
  · intro e he
    have : ∀ (l : List TV) (k : Nat), (∀ x ∈ l, x.wf σ0.length) → ∀ e ∈ frameOf k l, e.2.1.wf σ0.length := by
      intro l
      induction l with
      | nil => intro k _ e he; simp [frameOf] at he
      | cons u l ih =>
        intro k hw e he
        simp only [frameOf, List.mem_cons] at he
        rcases he with rfl | he
        · exact hw u (by simp)
        · exact ih (k + 1) (fun x hx => hw x (by simp [hx])) e he
    exact this args 0 (fun x hx => TV.wfB_spec (allB_spec hargs x hx)) e he
/-- What a deferred call leaves. -/
def RD (φ : Heap) (w0 : World) (m : Nat) (β0 : Nat → Bd) (F : Nat → Prop) (k : List Ch → Prop) (u' : FrameMode) (e : Ending) (v : FrameMode) (w' : World) : Prop :=
  v = u' ∧ (∃ x, e = .returned x) ∧ ∃ (τ : List Ch) (β' : Nat → Bd), k τ ∧ (∀ i, i < m → β' i = β0 i) ∧ m ≤ τ.length ∧ Sat β' τ φ w' ∧ Same w0 w' ∧
    ∀ (l : Nat) (d : Ch), τ[l]? = some d → ∀ g, g ∈ d.rfoot (β' l) → F g ∨ w0.heap.size ≤ g
abbrev postD (P : Program) (fn : Func) (c₀ : Frame) (cs : List Frame) (R : Ending → FrameMode → World → Prop) (u' : FrameMode) : Exit → Act → World → Prop :=
  fun e a w' => bodyPostS P fn c₀ cs R e a ({ c₀ with mode := u' } :: cs) w'
theorem fin_D {X : Cx} {tt : TT} (htt : TTok X.P tt) {fr : Fr} {σ : List Ch} {fn : Func} {k : List Ch → Prop} {σ1 : List Ch} {c₀ : Frame} {cs : List Frame} {u' : FrameMode} {e : Exit} (he : e = .normal ∨ e = .ret)
    (hrs : fn.results = #[]) (hK : k σ1) (sel : List Nat) (hp : pickL σ sel = some (σ1.map (Ch.rn fun k => sel.getD k 0))) (hs : selOk 0 X.m sel = true) (hnd : nodupB sel = true)
    (hw2 : allB (Ch.wfB σ1.length) σ1 = true) (hds : X.ds = [] := by rfl) :
    WpE X (postD X.P fn c₀ cs (RD X.φ X.w0 X.m X.β0 X.F k u') u') e fr σ := by
  refine ⟨fun β a w hr => ?_⟩
  obtain ⟨h1, u, h2, x, β', ⟨q1, q2⟩, q3⟩ := Sx.leaves (γ := List Ch) (pc := fun x => k x ∧ True) (fv := fun _ => .tup []) (σ1 := fun x => x) htt (rs := []) hrs (l := []) rfl σ1 sel ⟨hK, trivial⟩ rfl hp hs hnd rfl hw2 hds β a w hr
  have key : RD X.φ X.w0 X.m X.β0 X.F k u' (.returned u) u' w := ⟨rfl, ⟨u, rfl⟩, x, β', q1, q3.1, q3.2.1, q3.2.2.2.2.1, q3.2.2.2.2.2.1, q3.2.2.2.2.2.2⟩
  rcases he with rfl | rfl
  · exact ⟨h1, u', rfl, u, h2, key⟩
  · exact ⟨h1, u', rfl, u, h2, key⟩
end Go.Sx
namespace Go.Proofs
open Go Go.Sx
set_option maxRecDepth 10000
theorem tapV_get {T : List (Int × Int)} {j : Nat} {a v : Int} (h : T[j]? = some (a, v)) : (tapV T)[j * 2]? = some (.int .i32 a) ∧ (tapV T)[j * 2 + 1]? = some (.int .i32 v) := by
  induction T generalizing j with
  | nil => simp at h
  | cons x t ih =>
    cases j with
    | zero => simp at h; subst h; exact ⟨rfl, rfl⟩
    | succ j =>
      simp only [List.getElem?_cons_succ] at h
      have := ih h
      rw [show (j + 1) * 2 = j * 2 + 1 + 1 by omega]
      exact this
theorem try1_idle (x0 x1 x2 x3 : Value) (w : World) : CallsD Try.prog f_timer_try_1 #[x0, x1, x2, x3] .returning w fun e u' w' => e = .returned (.tuple #[]) ∧ u' = .returning ∧ w' = w := by
  have hnil : ∀ w : World, (binOp BinOp.neq 20 .nilIface .nilIface).run Try.prog w = .ok (.bool false) w := fun _ => by kernel_rfl
  refine callsD_of_wpS fn_timer_try_1 rfl fun c₀ cs hu => ?_
  apply wpS_seq
  apply wpS_region
  simp [wpOpsS, go_sem, recoverD, hu, Exit.thenS]
  apply wpS_seq
  apply wpS_region
  simp [wpOpsS, go_sem, Exit.thenS]
  refine wpS_cond (t := false) (by simp [Act.eval, Array.replicate]) ?_
  simp only [Bool.false_eq_true, if_false]
  refine wpS_of_wp (wp_skip ?_)
  refine ⟨rfl, .returning, by cases c₀; simp_all, .tuple #[], by simp [results, go_sem], rfl, rfl, rfl⟩
theorem try1_D0 (a b c d : Nat) (σ : List Ch) : TriD Try.prog f_timer_try_1 [.s (.loc a 0), .s (.loc b 0), .s (.loc c 0), .s (.loc d 0)] .returning .returning σ (fun τ => τ = σ) := by
  refine ⟨fun β φ w hs => ?_⟩
  refine (try1_idle _ _ _ _ w).mono ?_
  rintro e u' w' ⟨rfl, rfl, rfl⟩
  exact ⟨rfl, ⟨_, rfl⟩, σ, β, rfl, fun _ _ => rfl, Nat.le_refl _, hs, Same.refl _, fun l d hd g hg => .inl ⟨l, d, hd, hg⟩⟩
abbrev chR : List PanicEntry := [{ v := .iface 85 (.agg #[]), recovered := true }]
abbrev tryS (C : List SV) (E : Int) (T : List (Int × Int)) (cap : Nat) (m : Ram) : List Ch := [.blk 75 [.loc 4 0], .blk 34 [.loc 5 0], .blk 26 C, .blk 36 [.int .i64 E], .blk 115 [.loc 5 0, .sl 6 0 T.length cap], .blk 33 [.sl 7 0 m.l.length m.l.length], tR cap T, mOwn m.l]
noncomputable abbrev ctT1 : CT := [(f_mem_Mem_SetWord, eSetWordT)]
theorem ctT1_ok : CTok Try.prog ctT1 := ⟨con_ok cal_mem_Mem_SetWord _, trivial⟩
theorem try1_D (C : Core) (E : Int) (T : List (Int × Int)) (cap : Nat) (m : Ram) (hT : T.length ≤ 20000) (hok : ∀ x ∈ T, I32 x.1 ∧ I32 x.2) :
    TriD Try.prog f_timer_try_1 [.s (.loc 0 0), .s (.loc 1 0), .s (.loc 2 0), .s (.loc 3 0)] (.panicking chT) (.panicking chR) (tryS C.sv E T cap m) (fun τ => τ = tryS Core.zero.sv 4 T cap (undT T m)) := by
  refine ⟨fun β φ w hs => ?_⟩
  have hne : ∀ w : World, (binOp BinOp.neq 20 (.iface 85 (.agg #[])) .nilIface).run Try.prog w = .ok (.bool true) w := fun _ => by kernel_rfl
  show CallsD _ _ _ _ _ (RD φ w 8 β (Feet β (tryS C.sv E T cap m)) (fun τ => τ = tryS Core.zero.sv 4 T cap (undT T m)) (.panicking chR))
  generalize hR : RD φ w 8 β (Feet β (tryS C.sv E T cap m)) (fun τ => τ = tryS Core.zero.sv 4 T cap (undT T m)) (.panicking chR) = R
  refine callsD_of_wpS fn_timer_try_1 rfl fun c₀ cs hu => ?_
  apply wpS_seq
  apply wpS_region
  simp [wpOpsS, go_sem, recoverD, hu, Exit.thenS]
  apply wpS_seq
  apply wpS_region
  simp [wpOpsS, go_sem, Exit.thenS, hne]
  refine wpS_cond (t := true) (by simp [Act.eval, Array.replicate]) ?_
  simp only [if_true]
  refine wpS_of_wp ?_
  refine (show WpC ⟨Try.prog, 38, φ, w, 8, β, Feet β (tryS C.sv E T cap m), none, []⟩ _ (postD Try.prog Try.f66 c₀ cs R (.panicking chR)) (frameOf 0 [.s (.loc 0 0), .s (.loc 1 0), .s (.loc 2 0), .s (.loc 3 0)]) (tryS C.sv E T cap m) from ?_).h β _ w (frameOf_rep' (n := 38) (args := [.s (.loc 0 0), .s (.loc 1 0), .s (.loc 2 0), .s (.loc 3 0)]) (by simp) rfl hs)
  refine c_run tt_ok ctT1_ok k_timer_try_1 [] 60 (by kernel_rfl) ?_
  show WpC _ _ _ _ _
  refine c_loop (α := Nat × Ram) (fun x => x.1 ≤ T.length ∧ x.2.l.length = m.l.length ∧ undT (T.take x.1) x.2 = undT T m) (fun x => x.1)
    (fun x => [(0, .t (.s (.loc 0 0)), none), (1, .t (.s (.loc 1 0)), none), (2, .t (.s (.loc 2 0)), none), (3, .t (.s (.loc 3 0)), none), (5, .t (.s (.int .i64 ((x.1 : Int) - 1))), none)])
    (fun x => tryS C.sv E T cap x.2 ) (T.length, m) ?_ ?_ ?_
  · exact ⟨Nat.le_refl _, rfl, by rw [List.take_length]⟩
  · refine into [0, 1, 2, 3, 4, 5, 6, 7] ⟨⟨_, rfl, rfl⟩, ⟨_, rfl, rfl⟩, ⟨_, rfl, rfl⟩, ⟨_, rfl, rfl⟩, ⟨_, rfl, ?_⟩, trivial⟩ ⟨_, rfl, rfl⟩ rfl rfl rfl rfl
    show FV.t (.s (.int .i64 (IntKind.i64.wrap ((T.length : Int) - 1)))) = .t (.s (.int .i64 ((T.length : Int) - 1)))
    rw [wrap64 (by omega) (by omega)]
  · rintro ⟨j, n⟩ ⟨hj, hn, hlaw⟩
    simp only at hj hn hlaw
    dsimp only
    refine c_run' tt_ok ctT1_ok k_timer_try_1 [] 60 (by kernel_rfl) (by kernel_rfl) ?_
    refine ⟨fun h1 => ?_, fun h1 => ?_⟩
    · obtain ⟨j, rfl⟩ : ∃ j', j = j' + 1 := ⟨j - 1, by have := of_decide_eq_true h1; omega⟩
      obtain ⟨⟨xa, xv⟩, hx⟩ : ∃ x, T[j]? = some x := ⟨T[j]'(by omega), List.getElem?_eq_getElem _⟩
      show WpC _ _ _ _ _
      refine c_waysH tt_ok ctT1_ok k_timer_try_1 [0, 1, 4, 6] rfl rfl rfl ?_
      have hb : ((j + 1 : Nat) : Int) - 1 = (j : Int) ∧ j < T.length ∧ 0 + (j + 1) * (1 + 1) ≤ (tapV T).length := by rw [tapV_len]; refine ⟨by omega, by omega, by omega⟩
      have hca : (tapV T)[0 + j * (1 + 1) + 0 * 1]? = some (.int .i32 xa) := by rw [show 0 + j * (1 + 1) + 0 * 1 = j * 2 by omega]; exact (tapV_get hx).1
      have hcv : (tapV T)[0 + j * (1 + 1) + 1 * 1]? = some (.int .i32 xv) := by rw [show 0 + j * (1 + 1) + 1 * 1 = j * 2 + 1 by omega]; exact (tapV_get hx).2
      have hI : I32 xa := (hok _ (List.mem_of_getElem? hx)).1
      have hlaw' : undT (T.take j) (n.set xa xv) = undT T m := by
        rw [← hlaw, List.take_add_one, hx]
        exact (undT_app (T.take j) (xa, xv) n).symm
      repeat' (first | exact trivial | exact ⟨rfl, rfl, rfl, rfl, trivial⟩ | (refine Exists.intro j ?_; refine And.intro hb ?_) | (refine Exists.intro (.int .i32 xa) ?_; refine And.intro rfl ?_; refine And.intro hca ?_) | (refine Exists.intro (.int .i32 xv) ?_; refine And.intro rfl ?_; refine And.intro hcv ?_) | (refine Exists.intro n ?_; refine And.intro ⟨rfl, rfl, rfl, rfl, hI⟩ ?_) | (refine And.intro ?_ ?_))
      all_goals
        refine e_run tt_ok ctT1_ok k_timer_try_1 [] 60 (by kernel_rfl) ?_
        refine e_again (j, n.set xa xv) ⟨by dsimp only; omega, by dsimp only; rw [set_len]; exact hn, hlaw'⟩ (Nat.lt_succ_self j) (into [0, 1, 2, 3, 4, 5, 6, 7] ⟨⟨_, rfl, rfl⟩, ⟨_, rfl, rfl⟩, ⟨_, rfl, rfl⟩, ⟨_, rfl, rfl⟩, ⟨_, rfl, ?_⟩, trivial⟩ ⟨_, rfl, rfl⟩ rfl rfl rfl rfl)
        show FV.t (.s (.int .i64 (IntKind.i64.wrap (((j + 1 : Nat) : Int) - 1 - 1)))) = .t (.s (.int .i64 ((j : Int) - 1)))
        rw [wrap64 (by omega) (by omega)]
        congr 3; omega
    · have hj0 : j = 0 := by have := of_decide_eq_false h1; omega
      subst hj0
      have hn' : n = undT T m := by rw [← hlaw]; rfl
      subst hn'
      subst hR
      exact fin_D tt_ok (.inl rfl) rfl rfl [0, 1, 2, 3, 4, 5, 6, 7] rfl rfl rfl rfl
end Go.Proofs
