/- The tape's enbt, sleep. -/
import Derived.Test.YtcjaggapamngmaaWalkD

namespace Go.Proofs
open Go Go.Sx
set_option maxRecDepth 10000
abbrev tSet : Int := -2147483647
abbrev tNot : Int := -2147483646
/-- What comes back with a tape that is not needed any more, or the panic. -/
abbrev oS (v : FV) (m' : Ram) : Out := .all (List (Int × Int) × Nat) (fun x => x.1.length ≤ x.2) fun x => .ret v [tT 4 x.1.length x.2, tB m'.l.length, .dead, mOwn m'.l, tR x.2 x.1]
def oZ (n : Nat) (T : List (Int × Int)) (m : Ram) : Option (Core × Ram) → Out
  | some r => oS (.t (.agg r.1.sv)) r.2
  | none => oP n T m
def sleW : Option (Core × Ram) → Option (Core × Ram)
  | none => none
  | some r => some (waitK r.1 r.2, waitM r.1 r.2)
def sleR (k : Core) (m : Ram) (timed : Bool) (at' : Int) : Option (Core × Ram) :=
  sleW (bif timed then insR k (m.set (IntKind.i32.wrap (k.wptr + -12)) (-2147483646)) k.wptr at' k.pri else some (k, m.set (IntKind.i32.wrap (k.wptr + -12)) (-2147483646)))
noncomputable abbrev ctSl2 : CT := [(f_timer_tape_set, eTset), (f_sched_Wait, eWaitT)]
theorem ctSl2_ok : CTok Try.prog ctSl2 := ⟨con_ok cal_timer_tape_set _, con_ok cal_sched_Wait _, trivial⟩
theorem Core.setT_ok {k : Core} (h : k.ok) (o : Bool) {w : Int} (hw : I32 w) : (k.setT o w).ok := by
  unfold Core.setT; cases o <;> (constructor <;> first | exact hw | exact h.a | exact h.b | exact h.c | exact h.iptr | exact h.wptr | exact h.pri | exact h.f0 | exact h.f1 | exact h.b0 | exact h.b1 | exact h.t0 | exact h.t1 | exact h.k0 | exact h.k1 | exact h.ticks | exact h.slice | exact h.sa | exact h.sb | exact h.sc | exact h.siptr | exact h.swptr | exact h.sslice)
theorem lnkK_ok {k : Core} (h : k.ok) (bef : Int) {w : Int} (o : Bool) (hw : I32 w) : (lnkK k bef w o).ok := by
  unfold lnkK; cases (bef == NP); exact h; exact Core.setT_ok h o hw
theorem insR_ok {k k' : Core} {m m' : Ram} {w at' p : Int} (h : k.ok) (hw : I32 w) (hI : insR k m w at' p = some (k', m')) : k'.ok := by
  unfold insR at hI
  cases hv : (!validB m w) <;> rw [hv] at hI
  · rw [cond_false] at hI
    rcases hl : insL queN m at' NP (k.tm (p == 1)) with _ | ⟨bef, nxt⟩ <;> rw [hl] at hI
    · cases hI
    · cases hI; exact lnkK_ok h _ _ hw
  · cases hI
theorem sleep_c (T : List (Int × Int)) (m : Ram) (cap : Nat) (k : Core) (timed : Bool) (at' : Int) (hok : k.ok) (hp : k.pri = 0 ∨ k.pri = 1) (hT : T.length ≤ 19980) (hc : T.length ≤ cap) :
    ConX Try.prog chT f_timer_tape_sleep [.s (.loc 0 0), .agg k.sv, .s (.bool timed), .s (.int .i32 at')] [tT 2 T.length cap, tB m.l.length, tR cap T, mOwn m.l]
    (oZ 4 T m (sleR k m timed at')) := by
  intro K hK
  obtain ⟨R, hR⟩ : ∃ R, sleR k m timed at' = R := ⟨_, rfl⟩
  rw [hR] at hK
  unfold sleR at hR
  refine enterX fn_timer_tape_sleep rfl nt_timer_tape_sleep rfl rfl (fun φ w0 β0 F => ?_)
  refine c_run tt_ok ctSl2_ok k_timer_tape_sleep [21] 90 (by kernel_rfl) ?_
  refine ⟨(T, m, IntKind.i32.wrap (k.wptr + -12)), ⟨rfl, rfl, rfl, rfl, rfl, rfl, rfl, rfl, by dsimp only; omega, hc⟩, fun c1 hc1 => ⟨fun h1 => ?_, fun h1 => ?_⟩⟩
  · replace h1 : timed = true := h1
    subst h1
    rw [cond_true] at hR
    show WpL _ _ _ _ _ _
    rcases hI : insR k (m.set (IntKind.i32.wrap (k.wptr + -12)) (-2147483646)) k.wptr at' k.pri with _ | ⟨k', m'⟩
    · rw [hI] at hR
      refine l_callX xIns cal_timer_tape_insert rfl rfl rfl trivial rfl rfl rfl rfl rfl ?_
      refine ⟨(T ++ [(IntKind.i32.wrap (k.wptr + -12), m.word (IntKind.i32.wrap (k.wptr + -12)))], m.set (IntKind.i32.wrap (k.wptr + -12)) (-2147483646), none), ⟨by simp, rfl, rfl, rfl, rfl, rfl, rfl, ⟨hok, hok.wptr, hp, by simp; omega, by simpa using hc1⟩, hI⟩, fun x hx => ?_⟩
      replace hR : none = R := hR
      subst hR
      refine e_run tt_ok ctSl2_ok k_timer_tape_sleep [] 60 (by kernel_rfl) ?_
      exact fin_pan (hK x ⟨(Tp.set T m (I32_wrap _)).trans hx.1, hx.2⟩) [0, 1, 2, 3, 7] rfl rfl rfl rfl
    · rw [hI] at hR
      refine l_callX xIns cal_timer_tape_insert rfl rfl rfl trivial rfl rfl rfl rfl rfl ?_
      refine ⟨(T ++ [(IntKind.i32.wrap (k.wptr + -12), m.word (IntKind.i32.wrap (k.wptr + -12)))], m.set (IntKind.i32.wrap (k.wptr + -12)) (-2147483646), some (k', m')), ⟨by simp, rfl, rfl, rfl, rfl, rfl, rfl, ⟨hok, hok.wptr, hp, by simp; omega, by simpa using hc1⟩, hI⟩, fun x hx => ?_⟩
      have hok1 := insR_ok hok hok.wptr hI
      replace hR : some (waitK k' m', waitM k' m') = R := hR
      subst hR
      refine l_run tt_ok ctSl2_ok k_timer_tape_sleep [] 60 (by kernel_rfl) (by kernel_rfl) ?_
      refine c_ways tt_ok ctSl2_ok k_timer_tape_sleep rfl rfl ?_
      repeat' (first | exact trivial | (refine Exists.intro (m', waitK k' m', waitE k' m', waitM k' m') ?_; refine And.intro ⟨rfl, rfl, rfl, rfl, hok1.wptr, rfl⟩ ?_) | (refine And.intro ?_ ?_) | (refine fun _ => ?_))
      all_goals
        refine e_run tt_ok ctSl2_ok k_timer_tape_sleep [] 60 (by kernel_rfl) ?_
        exact fin_kX tt_ok (rs := rs_timer_tape_sleep) rfl rfl (hK x hx.2) [0, 1, 2, 3, 7] rfl rfl rfl rfl rfl rfl rfl
  · replace h1 : timed = false := h1
    subst h1
    rw [cond_false] at hR
    replace hR : some (waitK k (m.set (IntKind.i32.wrap (k.wptr + -12)) (-2147483646)), waitM k (m.set (IntKind.i32.wrap (k.wptr + -12)) (-2147483646))) = R := hR
    subst hR
    show WpC _ _ _ _ _
    refine c_ways tt_ok ctSl2_ok k_timer_tape_sleep rfl rfl ?_
    repeat' (first | exact trivial | (refine Exists.intro ((m.set (IntKind.i32.wrap (k.wptr + -12)) (-2147483646)), waitK k (m.set (IntKind.i32.wrap (k.wptr + -12)) (-2147483646)), waitE k (m.set (IntKind.i32.wrap (k.wptr + -12)) (-2147483646)), waitM k (m.set (IntKind.i32.wrap (k.wptr + -12)) (-2147483646))) ?_; refine And.intro ⟨rfl, rfl, rfl, rfl, hok.wptr, rfl⟩ ?_) | (refine And.intro ?_ ?_) | (refine fun _ => ?_))
    all_goals
      refine e_run tt_ok ctSl2_ok k_timer_tape_sleep [] 60 (by kernel_rfl) ?_
      exact fin_kX tt_ok (rs := rs_timer_tape_sleep) rfl rfl (hK (T ++ [(IntKind.i32.wrap (k.wptr + -12), m.word (IntKind.i32.wrap (k.wptr + -12)))], c1) (by simpa using hc1)) [0, 1, 2, 3, 6] rfl (by dsimp only; rw [List.length_append]; rfl) rfl rfl rfl rfl rfl
noncomputable abbrev xSle : XI f_timer_tape_sleep := fun cargs σ0 => match cargs, σ0 with
  | [.s (.loc 0 0), .agg cs, .s (.bool b), .s (.int .i32 at')], [.blk 115 [.loc 1 0, .sl 2 0 n cap], .blk 33 [.sl 3 0 k k'], .own 22 2 cap' ys, .own 5 1 c xs] => withCore cs fun q hq =>
    some ⟨.ex (List (Int × Int) × Ram × Option (Core × Ram)) fun y => .ask (n = y.1.length ∧ cap' = cap ∧ ys = tapV y.1 ∧ k = y.2.1.l.length ∧ k' = y.2.1.l.length ∧ c = y.2.1.l.length ∧ xs = bytesI y.2.1.l ∧ (q.ok ∧ (q.pri = 0 ∨ q.pri = 1) ∧ y.1.length ≤ 19980 ∧ y.1.length ≤ cap) ∧ sleR q y.2.1 b at' = y.2.2)
      (oZ 4 y.1 y.2.1 y.2.2), fun K h => by
      obtain ⟨⟨T, m, r⟩, ⟨e1, e2, e3, e4, e5, e6, e7, ⟨e8, e10, e11, e12⟩, e13⟩, h⟩ := h
      dsimp only at e1 e2 e3 e4 e5 e6 e7 e8 e10 e11 e12 e13 h
      subst e1; subst e2; subst e3; subst e4; subst e5; subst e6; subst e7; subst hq; subst e13
      exact sleep_c T m _ q b at' e8 e10 e11 e12 K h⟩
  | _, _ => none
end Go.Proofs

namespace Go.Proofs
open Go Go.Sx
set_option maxRecDepth 10000
def enbM (k : Core) (m : Ram) : Ram :=
  bif k.a == 0 then m else bif m.word (IntKind.i32.wrap (k.wptr + -16)) == tNot then (m.set (IntKind.i32.wrap (k.wptr + -16)) tSet).set (IntKind.i32.wrap (k.wptr + -20)) k.b
  else bif bif m.word (IntKind.i32.wrap (k.wptr + -16)) == tSet then aftB (m.word (IntKind.i32.wrap (k.wptr + -20))) k.b else false then m.set (IntKind.i32.wrap (k.wptr + -20)) k.b else m
theorem setP_c (T : List (Int × Int)) (m : Ram) (cap : Nat) (w kk v ad : Int) (had : ad = IntKind.i32.wrap (w + IntKind.i32.wrap (4 * kk))) (hT : T.length ≤ 20000) (hc : T.length ≤ cap) :
    Con Try.prog f_timer_tape_set [.s (.loc 0 0), .s (.int .i32 w), .s (.int .i32 kk), .s (.int .i32 v)] [tT 2 T.length cap, tB m.l.length, tR cap T, mOwn m.l]
    (oT (.tup []) 1 T m (m.set ad v)) := fun K hK => set_c T m cap w kk v ad had hT hc K fun c hc' => by
  have this : K (.tup []) [tT 4 (T ++ [(ad, m.word ad)]).length c, tB (m.set ad v).l.length, .dead, mOwn (m.set ad v).l, tR c (T ++ [(ad, m.word ad)])] := hK (T ++ [(ad, m.word ad)], c) ⟨Tp.set _ _ (by rw [had]; exact I32_wrap _), by simpa using hc'⟩
  rw [List.length_append] at this
  exact this
noncomputable abbrev eTsp : Ent := .st (conS (P := Try.prog) (f := f_timer_tape_set) fun cargs σ0 => match cargs, σ0 with
  | [.s (.loc 0 0), .s (.int .i32 w), .s (.int .i32 kk), .s (.int .i32 v)], [.blk 115 [.loc 1 0, .sl 2 0 n cap], .blk 33 [.sl 3 0 k k'], .own 22 2 cap' ys, .own 5 1 c xs] =>
    some ⟨.ex (List (Int × Int) × Ram × Int) fun p => .ask (n = p.1.length ∧ cap' = cap ∧ ys = tapV p.1 ∧ k = p.2.1.l.length ∧ k' = p.2.1.l.length ∧ c = p.2.1.l.length ∧ xs = bytesI p.2.1.l ∧ p.2.2 = IntKind.i32.wrap (w + IntKind.i32.wrap (4 * kk)) ∧ p.1.length ≤ 20000 ∧ p.1.length ≤ cap)
      (oT (.tup []) 1 p.1 p.2.1 (p.2.1.set p.2.2 v)), fun K h => by
      obtain ⟨⟨T, m, ad⟩, ⟨e1, e2, e3, e4, e5, e6, e7, e8, e9, e10⟩, h⟩ := h
      dsimp only at e1 e2 e3 e4 e5 e6 e7 e8 e9 e10 h
      subst e1; subst e2; subst e3; subst e4; subst e5; subst e6; subst e7
      exact setP_c T m _ w kk v ad e8 e9 e10 K h⟩
  | _, _ => none)
noncomputable abbrev ctEb : CT := [(f_timer_tape_set, eTsp), (f_timer_tape_get, in_timer_tape_get ctWo), (f_word_After, .pure spAfter)]
theorem ctEb_ok : CTok Try.prog ctEb := ⟨con_ok cal_timer_tape_set _, in_timer_tape_get_ok ctWo_ok, ceAfter, trivial⟩
theorem enbt_c (T : List (Int × Int)) (m : Ram) (cap : Nat) (k : Core) (_hok : k.ok) (hT : T.length ≤ 19980) (hc : T.length ≤ cap) :
    Con Try.prog f_timer_tape_enbt [.s (.loc 0 0), .agg k.sv] [tT 2 T.length cap, tB m.l.length, tR cap T, mOwn m.l]
    (oS (.t (.agg ({ k with b := k.c }).sv)) (enbM k m)) := by
  intro K hK
  unfold enbM at hK
  refine enter fn_timer_tape_enbt rfl nt_timer_tape_enbt rfl rfl (fun φ w0 β0 F => ?_)
  refine c_run tt_ok ctEb_ok k_timer_tape_enbt [] 90 (by kernel_rfl) ?_
  refine ⟨m, ⟨rfl, rfl, rfl, rfl, I32_wrap _⟩, fun h1 => ?_, fun h1 => ⟨fun h2 => ?_, fun h2 => ?_⟩⟩
  · rw [show (k.a == 0) = true from h1, cond_true] at hK
    refine WpE.into (rowMove 0 2 rfl rfl) ?_
    exact fin_k tt_ok (rs := rs_timer_tape_enbt) rfl rfl (hK (T, cap) hc) [0, 1, 2, 3, 6] rfl rfl rfl rfl rfl rfl
  · rw [show (k.a == 0) = false from h1, cond_false, show (m.word (IntKind.i32.wrap (k.wptr + -16)) == tNot) = true from h2, cond_true] at hK
    refine ⟨(T, m, IntKind.i32.wrap (k.wptr + -16)), ⟨rfl, rfl, rfl, rfl, rfl, rfl, rfl, rfl, by dsimp only; omega, hc⟩, fun x hx => ?_⟩
    refine ⟨(x.1, m.set (IntKind.i32.wrap (k.wptr + -16)) tSet, IntKind.i32.wrap (k.wptr + -20)), ⟨rfl, rfl, rfl, rfl, rfl, rfl, rfl, rfl, by have := hx.1.len; dsimp only at this ⊢; omega, hx.2⟩, fun y hy => ?_⟩
    exact fin_k tt_ok (rs := rs_timer_tape_enbt) rfl rfl (hK y hy.2) [0, 1, 2, 3, 7] rfl rfl rfl rfl rfl rfl
  · rw [show (k.a == 0) = false from h1, cond_false, show (m.word (IntKind.i32.wrap (k.wptr + -16)) == tNot) = false from h2, cond_false] at hK
    show WpC _ _ _ _ _
    rcases hs : (m.word (IntKind.i32.wrap (k.wptr + -16)) == tSet) with _ | _
    all_goals
      rw [hs] at hK
      refine c_waysH tt_ok ctEb_ok k_timer_tape_enbt [4] rfl rfl rfl ?_
      repeat' (first | exact trivial | exact hs | exact ⟨rfl, trivial⟩ | (intro h; exact absurd (h.symm.trans hs) (by decide)) | (refine Exists.intro m ?_; refine And.intro ⟨rfl, rfl, rfl, rfl, I32_wrap _⟩ ?_) | (refine And.intro ?_ ?_) | (refine fun _ => ?_))
      all_goals refine e_run tt_ok ctEb_ok k_timer_tape_enbt [] 60 (by kernel_rfl) ?_
    · refine ⟨fun h => absurd h (by decide), fun _ => ?_⟩
      refine WpE.into (rowMove 0 2 rfl rfl) ?_
      exact fin_k tt_ok (rs := rs_timer_tape_enbt) rfl rfl (hK (T, cap) hc) [0, 1, 2, 3, 6] rfl rfl rfl rfl rfl rfl
    · refine ⟨fun h5 => ?_, fun h5 => ?_⟩
      · have h5' : (bif m.word (IntKind.i32.wrap (k.wptr + -16)) == tSet then aftB (m.word (IntKind.i32.wrap (k.wptr + -20))) k.b else false) = true := h5
        rw [hs] at h5'
        rw [h5', cond_true] at hK
        refine ⟨(T, m, IntKind.i32.wrap (k.wptr + -20)), ⟨rfl, rfl, rfl, rfl, rfl, rfl, rfl, rfl, by dsimp only; omega, hc⟩, fun x hx => ?_⟩
        exact fin_k tt_ok (rs := rs_timer_tape_enbt) rfl rfl (hK x hx.2) [0, 1, 2, 3, 6] rfl rfl rfl rfl rfl rfl
      · have h5' : (bif m.word (IntKind.i32.wrap (k.wptr + -16)) == tSet then aftB (m.word (IntKind.i32.wrap (k.wptr + -20))) k.b else false) = false := h5
        rw [hs] at h5'
        rw [h5', cond_false] at hK
        refine WpE.into (rowMove 0 2 rfl rfl) ?_
        exact fin_k tt_ok (rs := rs_timer_tape_enbt) rfl rfl (hK (T, cap) hc) [0, 1, 2, 3, 6] rfl rfl rfl rfl rfl rfl
noncomputable abbrev eEnbt : Ent := .st (conS (P := Try.prog) (f := f_timer_tape_enbt) fun cargs σ0 => match cargs, σ0 with
  | [.s (.loc 0 0), .agg cs], [.blk 115 [.loc 1 0, .sl 2 0 n cap], .blk 33 [.sl 3 0 k k'], .own 22 2 cap' ys, .own 5 1 c xs] => withCore cs fun q hq =>
    some ⟨.ex (List (Int × Int) × Ram) fun y => .ask (n = y.1.length ∧ cap' = cap ∧ ys = tapV y.1 ∧ k = y.2.l.length ∧ k' = y.2.l.length ∧ c = y.2.l.length ∧ xs = bytesI y.2.l ∧ q.ok ∧ y.1.length ≤ 19980 ∧ y.1.length ≤ cap)
      (oS (.t (.agg ({ q with b := q.c }).sv)) (enbM q y.2)), fun K h => by
      obtain ⟨⟨T, m⟩, ⟨e1, e2, e3, e4, e5, e6, e7, e8, e9, e10⟩, h⟩ := h
      dsimp only at e1 e2 e3 e4 e5 e6 e7 e8 e9 e10 h
      subst e1; subst e2; subst e3; subst e4; subst e5; subst e6; subst e7; subst hq
      exact enbt_c T m _ q e8 e9 e10 K h⟩
  | _, _ => none)
end Go.Proofs

namespace Go.Proofs
open Go Go.Sx
set_option maxRecDepth 10000
def talR (k : Core) (m : Ram) (now : Int) : Option (Core × Ram) :=
  bif bif (m.set (IntKind.i32.wrap k.wptr) (-1)).word (IntKind.i32.wrap (k.wptr + -12)) == -2147483645 then true
      else bif (m.set (IntKind.i32.wrap k.wptr) (-1)).word (IntKind.i32.wrap (k.wptr + -16)) == tSet then aftB now ((m.set (IntKind.i32.wrap k.wptr) (-1)).word (IntKind.i32.wrap (k.wptr + -20))) else false
  then some (k, ((m.set (IntKind.i32.wrap k.wptr) (-1)).set (IntKind.i32.wrap (k.wptr + -12)) (-2147483645)).set (IntKind.i32.wrap (k.wptr + -20)) now)
  else sleR k (m.set (IntKind.i32.wrap k.wptr) (-1)) ((m.set (IntKind.i32.wrap k.wptr) (-1)).word (IntKind.i32.wrap (k.wptr + -16)) == tSet) (IntKind.i32.wrap ((m.set (IntKind.i32.wrap k.wptr) (-1)).word (IntKind.i32.wrap (k.wptr + -20)) + 1))
theorem taltwt_c (T : List (Int × Int)) (m : Ram) (cap : Nat) (k : Core) (now : Int) (hok : k.ok) (hp : k.pri = 0 ∨ k.pri = 1) (hT : T.length ≤ 19970) (hc : T.length ≤ cap) :
    ConX Try.prog chT f_timer_tape_taltwt [.s (.loc 0 0), .agg k.sv, .s (.int .i32 now)] [tT 2 T.length cap, tB m.l.length, tR cap T, mOwn m.l]
    (oZ 5 T m (talR k m now)) := by
  intro K hK
  obtain ⟨R, hR⟩ : ∃ R, talR k m now = R := ⟨_, rfl⟩
  rw [hR] at hK
  unfold talR at hR
  obtain ⟨m1, hm1⟩ : ∃ m1, m.set (IntKind.i32.wrap k.wptr) (-1) = m1 := ⟨_, rfl⟩
  rw [hm1] at hR
  have hlen := hm1 ▸ set_len m (IntKind.i32.wrap k.wptr) (-1)
  rcases ht : (m1.word (IntKind.i32.wrap (k.wptr + -16)) == tSet) with _ | _ <;> rcases hr : (m1.word (IntKind.i32.wrap (k.wptr + -12)) == -2147483645) with _ | _ <;> rw [ht, hr] at hR
  all_goals
    refine enterX fn_timer_tape_taltwt rfl nt_timer_tape_taltwt rfl rfl (fun φ w0 β0 F => ?_)
    refine c_run tt_ok ctEb_ok k_timer_tape_taltwt [47, 100018, 100025] 90 (by kernel_rfl) ?_
    refine ⟨(T, m, IntKind.i32.wrap k.wptr), ⟨rfl, rfl, rfl, rfl, rfl, rfl, rfl, ?_, by dsimp only; omega, hc⟩, ?_⟩
    · show _ = IntKind.i32.wrap (k.wptr + 0); rw [Int.add_zero]
    dsimp only
    rw [hm1]
    rintro x hx
    have hx1 : Tp 1 T m x.1 m1 := hm1 ▸ hx.1
    refine ⟨m1, ⟨rfl, rfl, rfl, rfl, I32_wrap _⟩, ?_⟩
  · refine ⟨.t (.s (.bool false)), fun β => told_bl ht, rfl, ⟨m1, ⟨rfl, rfl, rfl, rfl, I32_wrap _⟩, ⟨m1, ⟨rfl, rfl, rfl, rfl, I32_wrap _⟩, ⟨.t (.s (.bool false)), fun β => told_bl hr, rfl, ?_⟩⟩⟩⟩
    refine ⟨fun _ => trivial, ⟨fun h5 => ?_, fun h5 => ?_⟩⟩
    · have h5' : (bif false then true else bif false then aftB now (m1.word (IntKind.i32.wrap (k.wptr + -20))) else false) = true := h5
      exact absurd h5' (by simp)
    · have h5' : (bif false then true else bif false then aftB now (m1.word (IntKind.i32.wrap (k.wptr + -20))) else false) = false := h5
      rw [h5', cond_false] at hR
      show WpL _ _ _ _ _ _
      rcases hS : sleR k m1 false (IntKind.i32.wrap (m1.word (IntKind.i32.wrap (k.wptr + -20)) + 1)) with _ | ⟨k', m'⟩
      · rw [hS] at hR
        subst hR
        refine l_callX xSle cal_timer_tape_sleep rfl rfl rfl trivial rfl rfl rfl rfl rfl ?_
        refine ⟨(x.1, m1, none), ⟨rfl, rfl, rfl, rfl, rfl, rfl, rfl, ⟨hok, hp, by have := hx.1.len; dsimp only at this ⊢; omega, hx.2⟩, hS⟩, fun y hy => ?_⟩
        refine e_run tt_ok ctEb_ok k_timer_tape_taltwt [] 60 (by kernel_rfl) ?_
        exact fin_pan (hK y ⟨hx1.trans hy.1, hy.2⟩) [0, 1, 2, 3, 7] rfl rfl rfl rfl
      · rw [hS] at hR
        subst hR
        refine l_callX xSle cal_timer_tape_sleep rfl rfl rfl trivial rfl rfl rfl rfl rfl ?_
        refine ⟨(x.1, m1, some (k', m')), ⟨rfl, rfl, rfl, rfl, rfl, rfl, rfl, ⟨hok, hp, by have := hx.1.len; dsimp only at this ⊢; omega, hx.2⟩, hS⟩, fun y hy => ?_⟩
        refine l_run tt_ok ctEb_ok k_timer_tape_taltwt [] 60 (by kernel_rfl) (by kernel_rfl) ?_
        exact fin_kX tt_ok (rs := rs_timer_tape_taltwt) rfl rfl (hK y hy) [0, 1, 2, 3, 7] rfl rfl rfl rfl rfl rfl rfl
  · refine ⟨.t (.s (.bool false)), fun β => told_bl ht, rfl, ⟨m1, ⟨rfl, rfl, rfl, rfl, I32_wrap _⟩, ⟨m1, ⟨rfl, rfl, rfl, rfl, I32_wrap _⟩, ⟨.t (.s (.bool true)), fun β => told_bl hr, rfl, ?_⟩⟩⟩⟩
    refine ⟨fun _ => trivial, ⟨fun h5 => ?_, fun h5 => ?_⟩⟩
    · have h5' : (bif true then true else bif false then aftB now (m1.word (IntKind.i32.wrap (k.wptr + -20))) else false) = true := h5
      rw [h5', cond_true] at hR
      subst hR
      refine ⟨(x.1, m1, IntKind.i32.wrap (k.wptr + -12)), ⟨rfl, rfl, rfl, rfl, rfl, rfl, rfl, rfl, by have := hx.1.len; dsimp only at this ⊢; omega, hx.2⟩, fun y hy => ?_⟩
      refine ⟨(y.1, m1.set (IntKind.i32.wrap (k.wptr + -12)) (-2147483645), IntKind.i32.wrap (k.wptr + -20)), ⟨rfl, rfl, rfl, rfl, rfl, rfl, rfl, rfl, by have := hx.1.len; have := hy.1.len; dsimp only at *; omega, hy.2⟩, fun z hz => ?_⟩
      exact fin_kX tt_ok (rs := rs_timer_tape_taltwt) rfl rfl (hK z hz.2) [0, 1, 2, 3, 8] rfl rfl rfl rfl rfl rfl rfl
    · have h5' : (bif true then true else bif false then aftB now (m1.word (IntKind.i32.wrap (k.wptr + -20))) else false) = false := h5
      exact absurd h5' (by simp)
  · refine ⟨.t (.s (.bool true)), fun β => told_bl ht, rfl, ⟨m1, ⟨rfl, rfl, rfl, rfl, I32_wrap _⟩, ⟨m1, ⟨rfl, rfl, rfl, rfl, I32_wrap _⟩, ⟨.t (.s (.bool false)), fun β => told_bl hr, rfl, ?_⟩⟩⟩⟩
    refine ⟨fun _ => trivial, ⟨fun h5 => ?_, fun h5 => ?_⟩⟩
    · have h5' : (bif false then true else bif true then aftB now (m1.word (IntKind.i32.wrap (k.wptr + -20))) else false) = true := h5
      rw [h5', cond_true] at hR
      subst hR
      refine ⟨(x.1, m1, IntKind.i32.wrap (k.wptr + -12)), ⟨rfl, rfl, rfl, rfl, rfl, rfl, rfl, rfl, by have := hx.1.len; dsimp only at this ⊢; omega, hx.2⟩, fun y hy => ?_⟩
      refine ⟨(y.1, m1.set (IntKind.i32.wrap (k.wptr + -12)) (-2147483645), IntKind.i32.wrap (k.wptr + -20)), ⟨rfl, rfl, rfl, rfl, rfl, rfl, rfl, rfl, by have := hx.1.len; have := hy.1.len; dsimp only at *; omega, hy.2⟩, fun z hz => ?_⟩
      exact fin_kX tt_ok (rs := rs_timer_tape_taltwt) rfl rfl (hK z hz.2) [0, 1, 2, 3, 8] rfl rfl rfl rfl rfl rfl rfl
    · have h5' : (bif false then true else bif true then aftB now (m1.word (IntKind.i32.wrap (k.wptr + -20))) else false) = false := h5
      rw [h5', cond_false] at hR
      show WpL _ _ _ _ _ _
      rcases hS : sleR k m1 true (IntKind.i32.wrap (m1.word (IntKind.i32.wrap (k.wptr + -20)) + 1)) with _ | ⟨k', m'⟩
      · rw [hS] at hR
        subst hR
        refine l_callX xSle cal_timer_tape_sleep rfl rfl rfl trivial rfl rfl rfl rfl rfl ?_
        refine ⟨(x.1, m1, none), ⟨rfl, rfl, rfl, rfl, rfl, rfl, rfl, ⟨hok, hp, by have := hx.1.len; dsimp only at this ⊢; omega, hx.2⟩, hS⟩, fun y hy => ?_⟩
        refine e_run tt_ok ctEb_ok k_timer_tape_taltwt [] 60 (by kernel_rfl) ?_
        exact fin_pan (hK y ⟨hx1.trans hy.1, hy.2⟩) [0, 1, 2, 3, 7] rfl rfl rfl rfl
      · rw [hS] at hR
        subst hR
        refine l_callX xSle cal_timer_tape_sleep rfl rfl rfl trivial rfl rfl rfl rfl rfl ?_
        refine ⟨(x.1, m1, some (k', m')), ⟨rfl, rfl, rfl, rfl, rfl, rfl, rfl, ⟨hok, hp, by have := hx.1.len; dsimp only at this ⊢; omega, hx.2⟩, hS⟩, fun y hy => ?_⟩
        refine l_run tt_ok ctEb_ok k_timer_tape_taltwt [] 60 (by kernel_rfl) (by kernel_rfl) ?_
        exact fin_kX tt_ok (rs := rs_timer_tape_taltwt) rfl rfl (hK y hy) [0, 1, 2, 3, 7] rfl rfl rfl rfl rfl rfl rfl
  · refine ⟨.t (.s (.bool true)), fun β => told_bl ht, rfl, ⟨m1, ⟨rfl, rfl, rfl, rfl, I32_wrap _⟩, ⟨m1, ⟨rfl, rfl, rfl, rfl, I32_wrap _⟩, ⟨.t (.s (.bool true)), fun β => told_bl hr, rfl, ?_⟩⟩⟩⟩
    refine ⟨fun _ => trivial, ⟨fun h5 => ?_, fun h5 => ?_⟩⟩
    · have h5' : (bif true then true else bif true then aftB now (m1.word (IntKind.i32.wrap (k.wptr + -20))) else false) = true := h5
      rw [h5', cond_true] at hR
      subst hR
      refine ⟨(x.1, m1, IntKind.i32.wrap (k.wptr + -12)), ⟨rfl, rfl, rfl, rfl, rfl, rfl, rfl, rfl, by have := hx.1.len; dsimp only at this ⊢; omega, hx.2⟩, fun y hy => ?_⟩
      refine ⟨(y.1, m1.set (IntKind.i32.wrap (k.wptr + -12)) (-2147483645), IntKind.i32.wrap (k.wptr + -20)), ⟨rfl, rfl, rfl, rfl, rfl, rfl, rfl, rfl, by have := hx.1.len; have := hy.1.len; dsimp only at *; omega, hy.2⟩, fun z hz => ?_⟩
      exact fin_kX tt_ok (rs := rs_timer_tape_taltwt) rfl rfl (hK z hz.2) [0, 1, 2, 3, 8] rfl rfl rfl rfl rfl rfl rfl
    · have h5' : (bif true then true else bif true then aftB now (m1.word (IntKind.i32.wrap (k.wptr + -20))) else false) = false := h5
      exact absurd h5' (by simp)
noncomputable abbrev xTal : XI f_timer_tape_taltwt := fun cargs σ0 => match cargs, σ0 with
  | [.s (.loc 0 0), .agg cs, .s (.int .i32 now)], [.blk 115 [.loc 1 0, .sl 2 0 n cap], .blk 33 [.sl 3 0 k k'], .own 22 2 cap' ys, .own 5 1 c xs] => withCore cs fun q hq =>
    some ⟨.ex (List (Int × Int) × Ram × Option (Core × Ram)) fun y => .ask (n = y.1.length ∧ cap' = cap ∧ ys = tapV y.1 ∧ k = y.2.1.l.length ∧ k' = y.2.1.l.length ∧ c = y.2.1.l.length ∧ xs = bytesI y.2.1.l ∧ (q.ok ∧ (q.pri = 0 ∨ q.pri = 1) ∧ y.1.length ≤ 19970 ∧ y.1.length ≤ cap) ∧ talR q y.2.1 now = y.2.2)
      (oZ 5 y.1 y.2.1 y.2.2), fun K h => by
      obtain ⟨⟨T, m, r⟩, ⟨e1, e2, e3, e4, e5, e6, e7, ⟨e8, e10, e11, e12⟩, e13⟩, h⟩ := h
      dsimp only at e1 e2 e3 e4 e5 e6 e7 e8 e10 e11 e12 e13 h
      subst e1; subst e2; subst e3; subst e4; subst e5; subst e6; subst e7; subst hq; subst e13
      exact taltwt_c T m _ q now e8 e10 e11 e12 K h⟩
  | _, _ => none
end Go.Proofs

namespace Go.Proofs
open Go Go.Sx
set_option maxRecDepth 10000
def Core.abc (k : Core) (a : Int) : Core := { k with a := a, b := 0, c := 0 }
def disE (k : Core) : Option (Core × Bool × Ram) → Option (Core × Ram)
  | none => none
  | some r => some (r.1.abc 0, r.2.2.set (IntKind.i32.wrap (k.wptr + -16)) tNot)
def disR (k : Core) (m : Ram) : Option (Core × Ram) :=
  bif bif k.b == 0 then true else m.word (IntKind.i32.wrap (k.wptr + -16)) == tNot then some (k.abc 0, m)
  else bif m.word (IntKind.i32.wrap (k.wptr + -16)) == tSet then
    bif bif aftB (m.word (IntKind.i32.wrap (k.wptr + -20))) k.c then m.word (IntKind.i32.wrap k.wptr) == -1 else false then some (k.abc 1, m.set (IntKind.i32.wrap k.wptr) k.a) else some (k.abc 0, m)
  else disE k (remR k m k.wptr k.pri)
theorem dist_c (T : List (Int × Int)) (m : Ram) (cap : Nat) (k : Core) (hok : k.ok) (hp : k.pri = 0 ∨ k.pri = 1) (hT : T.length ≤ 19970) (hc : T.length ≤ cap) :
    ConX Try.prog chT f_timer_tape_dist [.s (.loc 0 0), .agg k.sv] [tT 2 T.length cap, tB m.l.length, tR cap T, mOwn m.l]
    (oZ 5 T m (disR k m)) := by
  intro K hK
  obtain ⟨R, hR⟩ : ∃ R, disR k m = R := ⟨_, rfl⟩
  rw [hR] at hK
  unfold disR at hR
  refine enterX fn_timer_tape_dist rfl nt_timer_tape_dist rfl rfl (fun φ w0 β0 F => ?_)
  refine c_run tt_ok ctEb_ok k_timer_tape_dist [19] 90 (by kernel_rfl) ?_
  refine ⟨m, ⟨rfl, rfl, rfl, rfl, I32_wrap _⟩, ?_⟩
  refine ⟨fun h1 => ?_, fun h1 => ⟨fun h2 => ?_, fun h2 => ?_⟩⟩
  · have h1' : (bif k.b == 0 then true else m.word (IntKind.i32.wrap (k.wptr + -16)) == tNot) = true := h1
    rw [h1', cond_true] at hR
    subst hR
    refine WpE.into (rowMove 0 2 rfl rfl) ?_
    exact fin_kX tt_ok (rs := rs_timer_tape_dist) rfl rfl (hK (T, cap) hc) [0, 1, 2, 3, 6] rfl rfl rfl rfl rfl rfl rfl
  · have h1' : (bif k.b == 0 then true else m.word (IntKind.i32.wrap (k.wptr + -16)) == tNot) = false := h1
    have h2' : (m.word (IntKind.i32.wrap (k.wptr + -16)) == tSet) = true := h2
    rw [h1', cond_false, h2', cond_true] at hR
    show WpC _ _ _ _ _
    rcases ha : (aftB (m.word (IntKind.i32.wrap (k.wptr + -20))) k.c) with _ | _
    all_goals
      rw [ha] at hR
      refine c_waysH tt_ok ctEb_ok k_timer_tape_dist [4] rfl rfl rfl ?_
      repeat' (first | exact trivial | exact ha | exact ⟨rfl, trivial⟩ | (intro h; exact absurd (h.symm.trans ha) (by decide)) | (refine Exists.intro m ?_; refine And.intro ⟨rfl, rfl, rfl, rfl, I32_wrap _⟩ ?_) | (refine And.intro ?_ ?_) | (refine fun _ => ?_))
      all_goals refine e_run tt_ok ctEb_ok k_timer_tape_dist [] 60 (by kernel_rfl) ?_
    · refine ⟨fun h => absurd h (by decide), fun _ => ?_⟩
      rw [cond_false, cond_false] at hR
      subst hR
      refine WpE.into (rowMove 0 2 rfl rfl) ?_
      exact fin_kX tt_ok (rs := rs_timer_tape_dist) rfl rfl (hK (T, cap) hc) [0, 1, 2, 3, 6] rfl rfl rfl rfl rfl rfl rfl
    · have e0 : IntKind.i32.wrap (k.wptr + 0) = IntKind.i32.wrap k.wptr := by rw [Int.add_zero]
      refine ⟨fun h5 => ?_, fun h5 => ?_⟩
      · have h5' : (bif aftB (m.word (IntKind.i32.wrap (k.wptr + -20))) k.c then m.word (IntKind.i32.wrap (k.wptr + 0)) == -1 else false) = true := h5
        rw [ha, e0] at h5'
        rw [h5', cond_true] at hR
        subst hR
        refine ⟨(T, m, IntKind.i32.wrap k.wptr), ⟨rfl, rfl, rfl, rfl, rfl, rfl, rfl, e0.symm, by dsimp only; omega, hc⟩, fun x hx => ?_⟩
        exact fin_kX tt_ok (rs := rs_timer_tape_dist) rfl rfl (hK x hx.2) [0, 1, 2, 3, 6] rfl rfl rfl rfl rfl rfl rfl
      · have h5' : (bif aftB (m.word (IntKind.i32.wrap (k.wptr + -20))) k.c then m.word (IntKind.i32.wrap (k.wptr + 0)) == -1 else false) = false := h5
        rw [ha, e0] at h5'
        rw [h5', cond_false] at hR
        subst hR
        refine WpE.into (rowMove 0 2 rfl rfl) ?_
        exact fin_kX tt_ok (rs := rs_timer_tape_dist) rfl rfl (hK (T, cap) hc) [0, 1, 2, 3, 6] rfl rfl rfl rfl rfl rfl rfl
  · have h1' : (bif k.b == 0 then true else m.word (IntKind.i32.wrap (k.wptr + -16)) == tNot) = false := h1
    have h2' : (m.word (IntKind.i32.wrap (k.wptr + -16)) == tSet) = false := h2
    rw [h1', cond_false, h2', cond_false] at hR
    show WpL _ _ _ _ _ _
    rcases hS : remR k m k.wptr k.pri with _ | ⟨k', b, m'⟩
    · rw [hS] at hR
      replace hR : none = R := hR
      subst hR
      refine l_callX xRem cal_timer_tape_remove rfl rfl rfl trivial rfl rfl rfl rfl rfl ?_
      refine ⟨(T, m, none), ⟨rfl, rfl, rfl, rfl, rfl, rfl, rfl, ⟨hok, hp, by dsimp only; omega, hc⟩, hS⟩, fun x hx => ?_⟩
      refine e_run tt_ok ctEb_ok k_timer_tape_dist [] 60 (by kernel_rfl) ?_
      exact fin_pan (hK x ⟨hx.1.mono (by decide), hx.2⟩) [0, 1, 2, 3, 6] rfl rfl rfl rfl
    · rw [hS] at hR
      replace hR : some (k'.abc 0, m'.set (IntKind.i32.wrap (k.wptr + -16)) tNot) = R := hR
      subst hR
      refine l_callX xRem cal_timer_tape_remove rfl rfl rfl trivial rfl rfl rfl rfl rfl ?_
      refine ⟨(T, m, some (k', b, m')), ⟨rfl, rfl, rfl, rfl, rfl, rfl, rfl, ⟨hok, hp, by dsimp only; omega, hc⟩, hS⟩, fun x hx => ?_⟩
      refine l_run tt_ok ctEb_ok k_timer_tape_dist [] 60 (by kernel_rfl) (by kernel_rfl) ?_
      refine ⟨(x.1, m', IntKind.i32.wrap (k.wptr + -16)), ⟨rfl, rfl, rfl, rfl, rfl, rfl, rfl, rfl, by have := hx.1.len; dsimp only at this ⊢; omega, hx.2⟩, fun y hy => ?_⟩
      exact fin_kX tt_ok (rs := rs_timer_tape_dist) rfl rfl (hK y hy.2) [0, 1, 2, 3, 7] rfl rfl rfl rfl rfl rfl rfl
noncomputable abbrev xDis : XI f_timer_tape_dist := fun cargs σ0 => match cargs, σ0 with
  | [.s (.loc 0 0), .agg cs], [.blk 115 [.loc 1 0, .sl 2 0 n cap], .blk 33 [.sl 3 0 k k'], .own 22 2 cap' ys, .own 5 1 c xs] => withCore cs fun q hq =>
    some ⟨.ex (List (Int × Int) × Ram × Option (Core × Ram)) fun y => .ask (n = y.1.length ∧ cap' = cap ∧ ys = tapV y.1 ∧ k = y.2.1.l.length ∧ k' = y.2.1.l.length ∧ c = y.2.1.l.length ∧ xs = bytesI y.2.1.l ∧ (q.ok ∧ (q.pri = 0 ∨ q.pri = 1) ∧ y.1.length ≤ 19970 ∧ y.1.length ≤ cap) ∧ disR q y.2.1 = y.2.2)
      (oZ 5 y.1 y.2.1 y.2.2), fun K h => by
      obtain ⟨⟨T, m, r⟩, ⟨e1, e2, e3, e4, e5, e6, e7, ⟨e8, e10, e11, e12⟩, e13⟩, h⟩ := h
      dsimp only at e1 e2 e3 e4 e5 e6 e7 e8 e10 e11 e12 e13 h
      subst e1; subst e2; subst e3; subst e4; subst e5; subst e6; subst e7; subst hq; subst e13
      exact dist_c T m _ q e8 e10 e11 e12 K h⟩
  | _, _ => none
end Go.Proofs

namespace Go.Proofs
open Go Go.Sx
set_option maxRecDepth 10000
def excR (k : Core) (m : Ram) (n : Int) : Option (Core × Ram) :=
  bif n == 34 then some ({ k with a := k.ck (k.pri == 1), b := k.a, c := k.b }, m)
  else bif n == 84 then some ({ k with k0 := k.a, k1 := k.a, ticks := 0, a := k.b, b := k.c }, m)
  else bif !validB m k.wptr then none
  else bif n == 43 then (bif !aftB (k.ck (k.pri == 1)) k.a then sleR k m true (IntKind.i32.wrap (k.a + 1)) else some (k, m))
  else bif n == 78 then some (k, (m.set (IntKind.i32.wrap (k.wptr + -12)) tSet).set (IntKind.i32.wrap (k.wptr + -16)) tNot)
  else bif n == 71 then some ({ k with b := k.c }, enbM k m)
  else bif n == 81 then talR k m (k.ck (k.pri == 1))
  else bif n == 46 then disR k m
  else some (k, m)
noncomputable abbrev ctXc : CT := [(f_timer_tape_set, eTsp), (f_timer_valid, eTval), (f_word_After, .pure spAfter), (f_timer_tape_enbt, eEnbt)]
theorem ctXc_ok : CTok Try.prog ctXc := ⟨con_ok cal_timer_tape_set _, con_ok cal_timer_valid _, ceAfter, con_ok cal_timer_tape_enbt _, trivial⟩
set_option maxHeartbeats 1000000 in
theorem exec_c (T : List (Int × Int)) (m : Ram) (cap : Nat) (k : Core) (n : Int) (hok : k.ok) (hp : k.pri = 0 ∨ k.pri = 1) (hT : T.length ≤ 19970) (hc : T.length ≤ cap) :
    ConX Try.prog chT f_timer_tape_exec [.s (.loc 0 0), .agg k.sv, .s (.int .i32 n)] [tT 2 T.length cap, tB m.l.length, tR cap T, mOwn m.l]
    (oZ 5 T m (excR k m n)) := by
  intro K hK
  obtain ⟨R, hR⟩ : ∃ R, excR k m n = R := ⟨_, rfl⟩
  rw [hR] at hK
  unfold excR at hR
  rcases hp with hp | hp
  · obtain ⟨q, rfl⟩ : ∃ q : Core, k = { q with pri := 0 } := ⟨k, by cases k; cases hp; rfl⟩
    have hp' : ({ q with pri := 0 } : Core).pri = 0 ∨ ({ q with pri := 0 } : Core).pri = 1 := .inl rfl
    rw [show ({ q with pri := 0 } : Core).ck (({ q with pri := 0 } : Core).pri == 1) = q.k0 from rfl] at hR
    refine enterX fn_timer_tape_exec rfl nt_timer_tape_exec rfl rfl (fun φ w0 β0 F => ?_)
    refine c_run tt_ok ctXc_ok k_timer_tape_exec [] 90 (by kernel_rfl) ?_
    refine ⟨fun h1 => ?_, fun h1 => ⟨fun h2 => ?_, fun h2 => ?_⟩⟩
    · rw [show (n == 34) = true from h1, cond_true] at hR
      subst hR
      refine WpE.into (rowMove 0 2 rfl rfl) ?_
      exact fin_kX tt_ok (rs := rs_timer_tape_exec) rfl rfl (hK (T, cap) hc) [0, 1, 2, 3, 6] rfl rfl rfl rfl rfl rfl rfl
    · rw [show (n == 34) = false from h1, cond_false, show (n == 84) = true from h2, cond_true] at hR
      subst hR
      refine WpE.into (rowMove 0 2 rfl rfl) ?_
      exact fin_kX tt_ok (rs := rs_timer_tape_exec) rfl rfl (hK (T, cap) hc) [0, 1, 2, 3, 6] rfl rfl rfl rfl rfl rfl rfl
    · rw [show (n == 34) = false from h1, cond_false, show (n == 84) = false from h2, cond_false] at hR
      refine c_waysH tt_ok ctXc_ok k_timer_tape_exec [4] rfl rfl rfl ?_
      repeat' (first | exact trivial | exact ⟨rfl, trivial⟩ | (refine Exists.intro m ?_; refine And.intro ⟨rfl, rfl, rfl, rfl, hok.wptr⟩ ?_) | (refine And.intro ?_ ?_) | (refine fun _ => ?_))
      refine e_run tt_ok ctXc_ok k_timer_tape_exec [64, 85, 90] 90 (by kernel_rfl) ?_
      refine ⟨fun h3 => ?_, fun h3 => ?_⟩
      · rw [show (!validB m q.wptr) = true from h3, cond_true] at hR
        subst hR
        refine l_iface rfl rfl trivial rfl rfl rfl rfl rfl ?_
        refine l_panic rfl trivial rfl ?_
        refine e_run tt_ok ctXc_ok k_timer_tape_exec [] 60 (by kernel_rfl) ?_
        refine WpE.into (rowMove 0 2 rfl rfl) ?_
        exact fin_pan (hK (T, cap, m) ⟨Tp.refl _ _ _, hc⟩) [0, 1, 2, 3, 6] rfl rfl rfl rfl
      · rw [show (!validB m q.wptr) = false from h3, cond_false] at hR
        refine ⟨fun h4 => ⟨trivial, fun h5 => ?_, fun h5 => ?_⟩, fun h4 => ⟨fun h5 => ?_, fun h5 => ⟨fun h6 => ?_, fun h6 => ⟨fun h7 => ?_, fun h7 => ⟨fun h8 => ?_, fun h8 => ?_⟩⟩⟩⟩⟩
        · rw [show (n == 43) = true from h4, cond_true, show (!aftB q.k0 q.a) = true from h5, cond_true] at hR
          show WpL _ _ _ _ _ _
          rcases hS : sleR { q with pri := 0 } m true (IntKind.i32.wrap (q.a + 1)) with _ | ⟨k', m'⟩
          · rw [hS] at hR
            subst hR
            refine l_callX xSle cal_timer_tape_sleep rfl rfl rfl trivial rfl rfl rfl rfl rfl ?_
            refine ⟨(T, m, none), ⟨rfl, rfl, rfl, rfl, rfl, rfl, rfl, ⟨hok, hp', by dsimp only; omega, hc⟩, hS⟩, fun x hx => ?_⟩
            refine e_run tt_ok ctXc_ok k_timer_tape_exec [] 60 (by kernel_rfl) ?_
            exact fin_pan (hK x ⟨hx.1.mono (by decide), hx.2⟩) [0, 1, 2, 3, 6] rfl rfl rfl rfl
          · rw [hS] at hR
            subst hR
            refine l_callX xSle cal_timer_tape_sleep rfl rfl rfl trivial rfl rfl rfl rfl rfl ?_
            refine ⟨(T, m, some (k', m')), ⟨rfl, rfl, rfl, rfl, rfl, rfl, rfl, ⟨hok, hp', by dsimp only; omega, hc⟩, hS⟩, fun x hx => ?_⟩
            refine l_run tt_ok ctXc_ok k_timer_tape_exec [] 60 (by kernel_rfl) (by kernel_rfl) ?_
            exact fin_kX tt_ok (rs := rs_timer_tape_exec) rfl rfl (hK x hx) [0, 1, 2, 3, 6] rfl rfl rfl rfl rfl rfl rfl
        · rw [show (n == 43) = true from h4, cond_true, show (!aftB q.k0 q.a) = false from h5, cond_false] at hR
          subst hR
          refine WpE.into (rowMove 0 2 rfl rfl) ?_
          exact fin_kX tt_ok (rs := rs_timer_tape_exec) rfl rfl (hK (T, cap) hc) [0, 1, 2, 3, 6] rfl rfl rfl rfl rfl rfl rfl
        · rw [show (n == 43) = false from h4, cond_false, show (n == 78) = true from h5, cond_true] at hR
          subst hR
          refine ⟨(T, m, IntKind.i32.wrap (q.wptr + -12)), ⟨rfl, rfl, rfl, rfl, rfl, rfl, rfl, rfl, by dsimp only; omega, hc⟩, fun x hx => ?_⟩
          refine ⟨(x.1, m.set (IntKind.i32.wrap (q.wptr + -12)) tSet, IntKind.i32.wrap (q.wptr + -16)), ⟨rfl, rfl, rfl, rfl, rfl, rfl, rfl, rfl, by have := hx.1.len; dsimp only at this ⊢; omega, hx.2⟩, fun y hy => ?_⟩
          exact fin_kX tt_ok (rs := rs_timer_tape_exec) rfl rfl (hK y hy.2) [0, 1, 2, 3, 7] rfl rfl rfl rfl rfl rfl rfl
        · rw [show (n == 43) = false from h4, cond_false, show (n == 78) = false from h5, cond_false, show (n == 71) = true from h6, cond_true] at hR
          subst hR
          refine ⟨(T, m), ⟨rfl, rfl, rfl, rfl, rfl, rfl, rfl, hok, by dsimp only; omega, hc⟩, fun x hx => ?_⟩
          exact fin_kX tt_ok (rs := rs_timer_tape_exec) rfl rfl (hK x hx) [0, 1, 2, 3, 6] rfl rfl rfl rfl rfl rfl rfl
        · rw [show (n == 43) = false from h4, cond_false, show (n == 78) = false from h5, cond_false, show (n == 71) = false from h6, cond_false, show (n == 81) = true from h7, cond_true] at hR
          show WpL _ _ _ _ _ _
          rcases hS : talR { q with pri := 0 } m q.k0 with _ | ⟨k', m'⟩
          · rw [hS] at hR
            subst hR
            refine l_callX xTal cal_timer_tape_taltwt rfl rfl rfl trivial rfl rfl rfl rfl rfl ?_
            refine ⟨(T, m, none), ⟨rfl, rfl, rfl, rfl, rfl, rfl, rfl, ⟨hok, hp', by dsimp only; omega, hc⟩, hS⟩, fun x hx => ?_⟩
            refine e_run tt_ok ctXc_ok k_timer_tape_exec [] 60 (by kernel_rfl) ?_
            exact fin_pan (hK x ⟨hx.1.mono (by decide), hx.2⟩) [0, 1, 2, 3, 6] rfl rfl rfl rfl
          · rw [hS] at hR
            subst hR
            refine l_callX xTal cal_timer_tape_taltwt rfl rfl rfl trivial rfl rfl rfl rfl rfl ?_
            refine ⟨(T, m, some (k', m')), ⟨rfl, rfl, rfl, rfl, rfl, rfl, rfl, ⟨hok, hp', by dsimp only; omega, hc⟩, hS⟩, fun x hx => ?_⟩
            refine l_run tt_ok ctXc_ok k_timer_tape_exec [] 60 (by kernel_rfl) (by kernel_rfl) ?_
            exact fin_kX tt_ok (rs := rs_timer_tape_exec) rfl rfl (hK x hx) [0, 1, 2, 3, 6] rfl rfl rfl rfl rfl rfl rfl
        · rw [show (n == 43) = false from h4, cond_false, show (n == 78) = false from h5, cond_false, show (n == 71) = false from h6, cond_false, show (n == 81) = false from h7, cond_false, show (n == 46) = true from h8, cond_true] at hR
          show WpL _ _ _ _ _ _
          rcases hS : disR { q with pri := 0 } m with _ | ⟨k', m'⟩
          · rw [hS] at hR
            subst hR
            refine l_callX xDis cal_timer_tape_dist rfl rfl rfl trivial rfl rfl rfl rfl rfl ?_
            refine ⟨(T, m, none), ⟨rfl, rfl, rfl, rfl, rfl, rfl, rfl, ⟨hok, hp', by dsimp only; omega, hc⟩, hS⟩, fun x hx => ?_⟩
            refine e_run tt_ok ctXc_ok k_timer_tape_exec [] 60 (by kernel_rfl) ?_
            exact fin_pan (hK x ⟨hx.1.mono (by decide), hx.2⟩) [0, 1, 2, 3, 6] rfl rfl rfl rfl
          · rw [hS] at hR
            subst hR
            refine l_callX xDis cal_timer_tape_dist rfl rfl rfl trivial rfl rfl rfl rfl rfl ?_
            refine ⟨(T, m, some (k', m')), ⟨rfl, rfl, rfl, rfl, rfl, rfl, rfl, ⟨hok, hp', by dsimp only; omega, hc⟩, hS⟩, fun x hx => ?_⟩
            refine l_run tt_ok ctXc_ok k_timer_tape_exec [] 60 (by kernel_rfl) (by kernel_rfl) ?_
            exact fin_kX tt_ok (rs := rs_timer_tape_exec) rfl rfl (hK x hx) [0, 1, 2, 3, 6] rfl rfl rfl rfl rfl rfl rfl
        · rw [show (n == 43) = false from h4, cond_false, show (n == 78) = false from h5, cond_false, show (n == 71) = false from h6, cond_false, show (n == 81) = false from h7, cond_false, show (n == 46) = false from h8, cond_false] at hR
          subst hR
          refine WpE.into (rowMove 0 2 rfl rfl) ?_
          exact fin_kX tt_ok (rs := rs_timer_tape_exec) rfl rfl (hK (T, cap) hc) [0, 1, 2, 3, 6] rfl rfl rfl rfl rfl rfl rfl
  · obtain ⟨q, rfl⟩ : ∃ q : Core, k = { q with pri := 1 } := ⟨k, by cases k; cases hp; rfl⟩
    have hp' : ({ q with pri := 1 } : Core).pri = 0 ∨ ({ q with pri := 1 } : Core).pri = 1 := .inr rfl
    rw [show ({ q with pri := 1 } : Core).ck (({ q with pri := 1 } : Core).pri == 1) = q.k1 from rfl] at hR
    refine enterX fn_timer_tape_exec rfl nt_timer_tape_exec rfl rfl (fun φ w0 β0 F => ?_)
    refine c_run tt_ok ctXc_ok k_timer_tape_exec [] 90 (by kernel_rfl) ?_
    refine ⟨fun h1 => ?_, fun h1 => ⟨fun h2 => ?_, fun h2 => ?_⟩⟩
    · rw [show (n == 34) = true from h1, cond_true] at hR
      subst hR
      refine WpE.into (rowMove 0 2 rfl rfl) ?_
      exact fin_kX tt_ok (rs := rs_timer_tape_exec) rfl rfl (hK (T, cap) hc) [0, 1, 2, 3, 6] rfl rfl rfl rfl rfl rfl rfl
    · rw [show (n == 34) = false from h1, cond_false, show (n == 84) = true from h2, cond_true] at hR
      subst hR
      refine WpE.into (rowMove 0 2 rfl rfl) ?_
      exact fin_kX tt_ok (rs := rs_timer_tape_exec) rfl rfl (hK (T, cap) hc) [0, 1, 2, 3, 6] rfl rfl rfl rfl rfl rfl rfl
    · rw [show (n == 34) = false from h1, cond_false, show (n == 84) = false from h2, cond_false] at hR
      refine c_waysH tt_ok ctXc_ok k_timer_tape_exec [4] rfl rfl rfl ?_
      repeat' (first | exact trivial | exact ⟨rfl, trivial⟩ | (refine Exists.intro m ?_; refine And.intro ⟨rfl, rfl, rfl, rfl, hok.wptr⟩ ?_) | (refine And.intro ?_ ?_) | (refine fun _ => ?_))
      refine e_run tt_ok ctXc_ok k_timer_tape_exec [64, 85, 90] 90 (by kernel_rfl) ?_
      refine ⟨fun h3 => ?_, fun h3 => ?_⟩
      · rw [show (!validB m q.wptr) = true from h3, cond_true] at hR
        subst hR
        refine l_iface rfl rfl trivial rfl rfl rfl rfl rfl ?_
        refine l_panic rfl trivial rfl ?_
        refine e_run tt_ok ctXc_ok k_timer_tape_exec [] 60 (by kernel_rfl) ?_
        refine WpE.into (rowMove 0 2 rfl rfl) ?_
        exact fin_pan (hK (T, cap, m) ⟨Tp.refl _ _ _, hc⟩) [0, 1, 2, 3, 6] rfl rfl rfl rfl
      · rw [show (!validB m q.wptr) = false from h3, cond_false] at hR
        refine ⟨fun h4 => ⟨trivial, fun h5 => ?_, fun h5 => ?_⟩, fun h4 => ⟨fun h5 => ?_, fun h5 => ⟨fun h6 => ?_, fun h6 => ⟨fun h7 => ?_, fun h7 => ⟨fun h8 => ?_, fun h8 => ?_⟩⟩⟩⟩⟩
        · rw [show (n == 43) = true from h4, cond_true, show (!aftB q.k1 q.a) = true from h5, cond_true] at hR
          show WpL _ _ _ _ _ _
          rcases hS : sleR { q with pri := 1 } m true (IntKind.i32.wrap (q.a + 1)) with _ | ⟨k', m'⟩
          · rw [hS] at hR
            subst hR
            refine l_callX xSle cal_timer_tape_sleep rfl rfl rfl trivial rfl rfl rfl rfl rfl ?_
            refine ⟨(T, m, none), ⟨rfl, rfl, rfl, rfl, rfl, rfl, rfl, ⟨hok, hp', by dsimp only; omega, hc⟩, hS⟩, fun x hx => ?_⟩
            refine e_run tt_ok ctXc_ok k_timer_tape_exec [] 60 (by kernel_rfl) ?_
            exact fin_pan (hK x ⟨hx.1.mono (by decide), hx.2⟩) [0, 1, 2, 3, 6] rfl rfl rfl rfl
          · rw [hS] at hR
            subst hR
            refine l_callX xSle cal_timer_tape_sleep rfl rfl rfl trivial rfl rfl rfl rfl rfl ?_
            refine ⟨(T, m, some (k', m')), ⟨rfl, rfl, rfl, rfl, rfl, rfl, rfl, ⟨hok, hp', by dsimp only; omega, hc⟩, hS⟩, fun x hx => ?_⟩
            refine l_run tt_ok ctXc_ok k_timer_tape_exec [] 60 (by kernel_rfl) (by kernel_rfl) ?_
            exact fin_kX tt_ok (rs := rs_timer_tape_exec) rfl rfl (hK x hx) [0, 1, 2, 3, 6] rfl rfl rfl rfl rfl rfl rfl
        · rw [show (n == 43) = true from h4, cond_true, show (!aftB q.k1 q.a) = false from h5, cond_false] at hR
          subst hR
          refine WpE.into (rowMove 0 2 rfl rfl) ?_
          exact fin_kX tt_ok (rs := rs_timer_tape_exec) rfl rfl (hK (T, cap) hc) [0, 1, 2, 3, 6] rfl rfl rfl rfl rfl rfl rfl
        · rw [show (n == 43) = false from h4, cond_false, show (n == 78) = true from h5, cond_true] at hR
          subst hR
          refine ⟨(T, m, IntKind.i32.wrap (q.wptr + -12)), ⟨rfl, rfl, rfl, rfl, rfl, rfl, rfl, rfl, by dsimp only; omega, hc⟩, fun x hx => ?_⟩
          refine ⟨(x.1, m.set (IntKind.i32.wrap (q.wptr + -12)) tSet, IntKind.i32.wrap (q.wptr + -16)), ⟨rfl, rfl, rfl, rfl, rfl, rfl, rfl, rfl, by have := hx.1.len; dsimp only at this ⊢; omega, hx.2⟩, fun y hy => ?_⟩
          exact fin_kX tt_ok (rs := rs_timer_tape_exec) rfl rfl (hK y hy.2) [0, 1, 2, 3, 7] rfl rfl rfl rfl rfl rfl rfl
        · rw [show (n == 43) = false from h4, cond_false, show (n == 78) = false from h5, cond_false, show (n == 71) = true from h6, cond_true] at hR
          subst hR
          refine ⟨(T, m), ⟨rfl, rfl, rfl, rfl, rfl, rfl, rfl, hok, by dsimp only; omega, hc⟩, fun x hx => ?_⟩
          exact fin_kX tt_ok (rs := rs_timer_tape_exec) rfl rfl (hK x hx) [0, 1, 2, 3, 6] rfl rfl rfl rfl rfl rfl rfl
        · rw [show (n == 43) = false from h4, cond_false, show (n == 78) = false from h5, cond_false, show (n == 71) = false from h6, cond_false, show (n == 81) = true from h7, cond_true] at hR
          show WpL _ _ _ _ _ _
          rcases hS : talR { q with pri := 1 } m q.k1 with _ | ⟨k', m'⟩
          · rw [hS] at hR
            subst hR
            refine l_callX xTal cal_timer_tape_taltwt rfl rfl rfl trivial rfl rfl rfl rfl rfl ?_
            refine ⟨(T, m, none), ⟨rfl, rfl, rfl, rfl, rfl, rfl, rfl, ⟨hok, hp', by dsimp only; omega, hc⟩, hS⟩, fun x hx => ?_⟩
            refine e_run tt_ok ctXc_ok k_timer_tape_exec [] 60 (by kernel_rfl) ?_
            exact fin_pan (hK x ⟨hx.1.mono (by decide), hx.2⟩) [0, 1, 2, 3, 6] rfl rfl rfl rfl
          · rw [hS] at hR
            subst hR
            refine l_callX xTal cal_timer_tape_taltwt rfl rfl rfl trivial rfl rfl rfl rfl rfl ?_
            refine ⟨(T, m, some (k', m')), ⟨rfl, rfl, rfl, rfl, rfl, rfl, rfl, ⟨hok, hp', by dsimp only; omega, hc⟩, hS⟩, fun x hx => ?_⟩
            refine l_run tt_ok ctXc_ok k_timer_tape_exec [] 60 (by kernel_rfl) (by kernel_rfl) ?_
            exact fin_kX tt_ok (rs := rs_timer_tape_exec) rfl rfl (hK x hx) [0, 1, 2, 3, 6] rfl rfl rfl rfl rfl rfl rfl
        · rw [show (n == 43) = false from h4, cond_false, show (n == 78) = false from h5, cond_false, show (n == 71) = false from h6, cond_false, show (n == 81) = false from h7, cond_false, show (n == 46) = true from h8, cond_true] at hR
          show WpL _ _ _ _ _ _
          rcases hS : disR { q with pri := 1 } m with _ | ⟨k', m'⟩
          · rw [hS] at hR
            subst hR
            refine l_callX xDis cal_timer_tape_dist rfl rfl rfl trivial rfl rfl rfl rfl rfl ?_
            refine ⟨(T, m, none), ⟨rfl, rfl, rfl, rfl, rfl, rfl, rfl, ⟨hok, hp', by dsimp only; omega, hc⟩, hS⟩, fun x hx => ?_⟩
            refine e_run tt_ok ctXc_ok k_timer_tape_exec [] 60 (by kernel_rfl) ?_
            exact fin_pan (hK x ⟨hx.1.mono (by decide), hx.2⟩) [0, 1, 2, 3, 6] rfl rfl rfl rfl
          · rw [hS] at hR
            subst hR
            refine l_callX xDis cal_timer_tape_dist rfl rfl rfl trivial rfl rfl rfl rfl rfl ?_
            refine ⟨(T, m, some (k', m')), ⟨rfl, rfl, rfl, rfl, rfl, rfl, rfl, ⟨hok, hp', by dsimp only; omega, hc⟩, hS⟩, fun x hx => ?_⟩
            refine l_run tt_ok ctXc_ok k_timer_tape_exec [] 60 (by kernel_rfl) (by kernel_rfl) ?_
            exact fin_kX tt_ok (rs := rs_timer_tape_exec) rfl rfl (hK x hx) [0, 1, 2, 3, 6] rfl rfl rfl rfl rfl rfl rfl
        · rw [show (n == 43) = false from h4, cond_false, show (n == 78) = false from h5, cond_false, show (n == 71) = false from h6, cond_false, show (n == 81) = false from h7, cond_false, show (n == 46) = false from h8, cond_false] at hR
          subst hR
          refine WpE.into (rowMove 0 2 rfl rfl) ?_
          exact fin_kX tt_ok (rs := rs_timer_tape_exec) rfl rfl (hK (T, cap) hc) [0, 1, 2, 3, 6] rfl rfl rfl rfl rfl rfl rfl
noncomputable abbrev xExc : XI f_timer_tape_exec := fun cargs σ0 => match cargs, σ0 with
  | [.s (.loc 0 0), .agg cs, .s (.int .i32 v)], [.blk 115 [.loc 1 0, .sl 2 0 n cap], .blk 33 [.sl 3 0 k k'], .own 22 2 cap' ys, .own 5 1 c xs] => withCore cs fun q hq =>
    some ⟨.ex (List (Int × Int) × Ram × Option (Core × Ram)) fun y => .ask (n = y.1.length ∧ cap' = cap ∧ ys = tapV y.1 ∧ k = y.2.1.l.length ∧ k' = y.2.1.l.length ∧ c = y.2.1.l.length ∧ xs = bytesI y.2.1.l ∧ (q.ok ∧ (q.pri = 0 ∨ q.pri = 1) ∧ y.1.length ≤ 19970 ∧ y.1.length ≤ cap) ∧ excR q y.2.1 v = y.2.2)
      (oZ 5 y.1 y.2.1 y.2.2), fun K h => by
      obtain ⟨⟨T, m, r⟩, ⟨e1, e2, e3, e4, e5, e6, e7, ⟨e8, e10, e11, e12⟩, e13⟩, h⟩ := h
      dsimp only at e1 e2 e3 e4 e5 e6 e7 e8 e10 e11 e12 e13 h
      subst e1; subst e2; subst e3; subst e4; subst e5; subst e6; subst e7; subst hq; subst e13
      exact exec_c T m _ q v e8 e10 e11 e12 K h⟩
  | _, _ => none
end Go.Proofs
