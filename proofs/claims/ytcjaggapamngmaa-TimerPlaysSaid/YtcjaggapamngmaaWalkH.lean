/- Tick: its function, try with it. -/
import Derived.Test.YtcjaggapamngmaaWalkG

namespace Go.Proofs
open Go Go.Sx
set_option maxRecDepth 10000
theorem Core.setF_ok {k : Core} (h : k.ok) (o : Bool) {w : Int} (hw : I32 w) : (k.setF o w).ok := by
  unfold Core.setF; cases o <;> (constructor <;> first | exact hw | exact h.a | exact h.b | exact h.c | exact h.iptr | exact h.wptr | exact h.pri | exact h.f0 | exact h.f1 | exact h.b0 | exact h.b1 | exact h.t0 | exact h.t1 | exact h.k0 | exact h.k1 | exact h.ticks | exact h.slice | exact h.sa | exact h.sb | exact h.sc | exact h.siptr | exact h.swptr | exact h.sslice)
theorem Core.setB_ok {k : Core} (h : k.ok) (o : Bool) {w : Int} (hw : I32 w) : (k.setB o w).ok := by
  unfold Core.setB; cases o <;> (constructor <;> first | exact hw | exact h.a | exact h.b | exact h.c | exact h.iptr | exact h.wptr | exact h.pri | exact h.f0 | exact h.f1 | exact h.b0 | exact h.b1 | exact h.t0 | exact h.t1 | exact h.k0 | exact h.k1 | exact h.ticks | exact h.slice | exact h.sa | exact h.sb | exact h.sc | exact h.siptr | exact h.swptr | exact h.sslice)
theorem zero_ok : Core.zero.ok := by constructor <;> exact ⟨by decide, by decide⟩
theorem appR_cok {k : Core} (h : k.ok) (m : Ram) {d : Int} (hd : I32 d) : (appR k m d).1.ok := by
  unfold appR
  cases (bif !validB m (wsp d) then true else bif !(k.fr (odd d) == NP) then !validB m (k.bk (odd d)) else false)
  · cases (k.fr (odd d) == NP)
    · exact Core.setB_ok h _ (wsp_I32 hd)
    · exact Core.setB_ok (Core.setF_ok h _ (wsp_I32 hd)) _ (wsp_I32 hd)
  · exact zero_ok
theorem wakR_ok {k k' : Core} {m m' : Ram} {p : Int} (h : k.ok) (hW : wakR k m p = some (k', m')) : k'.ok := by
  unfold wakR at hW
  have h1 : (k.setT (p == 1) (m.word (IntKind.i32.wrap (k.tm (p == 1) + -16)))).ok := Core.setT_ok h _ (word_I32 _ _)
  revert hW
  generalize k.setT (p == 1) (m.word (IntKind.i32.wrap (k.tm (p == 1) + -16))) = k1 at h1
  generalize (m.set (IntKind.i32.wrap (k.tm (p == 1) + -16)) tSet).set (IntKind.i32.wrap (k.tm (p == 1) + -20)) (k.ck (p == 1)) = m2
  cases (m2.word (IntKind.i32.wrap (k.tm (p == 1) + -12)) != -2147483646)
  · rw [cond_false]
    have h2 := appR_cok h1 (m2.set (IntKind.i32.wrap (k.tm (p == 1) + -12)) (-2147483645)) (I32_wrap (k.tm (p == 1) + IntKind.i32.wrap p))
    generalize appR k1 (m2.set (IntKind.i32.wrap (k.tm (p == 1) + -12)) (-2147483645)) (IntKind.i32.wrap (k.tm (p == 1) + IntKind.i32.wrap p)) = r at h2
    obtain ⟨a, b, c⟩ := r
    unfold wakE
    dsimp only
    cases (b == 0)
    · intro h; cases h
    · intro h; cases h; exact h2
  · rw [cond_true]
    intro h; cases h; exact h1
def tikQ : Nat → Core → Ram → Int → Option (Core × Ram)
  | 0, _, _, _ => none
  | f + 1, k, m, p => bif k.tm (p == 1) == NP then some (k, m) else bif !validB m (k.tm (p == 1)) then none
      else bif aftB (m.word (IntKind.i32.wrap (k.tm (p == 1) + -20))) (k.ck (p == 1)) then some (k, m)
      else bif f == 0 then none else (wakR k m p).bind fun r => tikQ f r.1 r.2 p
def tikF (j : Nat) (k : Core) (m : Ram) : Option (Core × Ram) := match j with
  | 0 => (tikQ queN k m 0).bind fun r => tikQ queN r.1 r.2 1
  | 1 => tikQ queN k m 1
  | _ => some (k, m)
abbrev tikS (k : Core) (T : List (Int × Int)) (cap : Nat) (m : Ram) (s : Nat) (r d : Ch) : List Ch := [.blk 115 [.loc 3 0, .sl s 0 T.length cap], .blk 26 k.sv, .blk 34 [.loc 3 0], .blk 33 [.sl 5 0 m.l.length m.l.length], r, mOwn m.l, d]
def oK1 (m : Ram) : Option (Core × Ram) → Out
  | some r => .all (List (Int × Int) × Nat) (fun x => x.1.length ≤ x.2) fun x => .ret (.t (.agg r.1.sv)) (tikS r.1 x.1 x.2 r.2 6 .dead (tR x.2 x.1))
  | none => .all (Core × List (Int × Int) × Nat × Ram) (fun x => Tp 20000 [] m x.2.1 x.2.2.2 ∧ x.2.1.length ≤ x.2.2.1) fun x => .ret pan (tikS x.1 x.2.1 x.2.2.1 x.2.2.2 6 .dead (tR x.2.2.1 x.2.1))
noncomputable abbrev ctTk2 : CT := [(f_timer_valid, eTval), (f_timer_tape_get, in_timer_tape_get ctWo), (f_word_After, .pure spAfter)]
theorem ctTk2_ok : CTok Try.prog ctTk2 := ⟨con_ok cal_timer_valid _, in_timer_tape_get_ok ctWo_ok, ceAfter, trivial⟩
set_option maxHeartbeats 4000000 in
theorem Tick1_c (m : Ram) (k : Core) (hok' : k.ok) :
    ConX Try.prog chT f_timer_Tick_1 [.s (.loc 0 0), .s (.loc 1 0), .s (.loc 2 0)] [.blk 115 [.loc 3 0, .sl 4 0 0 0], .blk 26 k.sv, .blk 34 [.loc 3 0], .blk 33 [.sl 5 0 m.l.length m.l.length], .own 22 2 0 [], mOwn m.l]
    (oK1 m (tikF 0 k m)) := by
  intro K hK
  obtain ⟨R, hR⟩ : ∃ R, tikF 0 k m = R := ⟨_, rfl⟩
  rw [hR] at hK
  refine enterX fn_timer_Tick_1 rfl nt_timer_Tick_1 rfl rfl (fun φ w0 β0 F => ?_)
  refine c_run tt_ok ctTk2_ok k_timer_Tick_1 [] 90 (by kernel_rfl) ?_
  show WpC _ _ _ _ _
  refine WpC.into (rowMove 0 4 rfl rfl) ?_
  refine c_loop (α := Nat × Core × Ram × List (Int × Int) × Nat) (fun x => x.1 ≤ 2 ∧ x.2.1.ok ∧ tikF x.1 x.2.1 x.2.2.1 = R ∧ x.2.2.2.1.length ≤ x.2.2.2.2 ∧ x.2.2.2.1.length ≤ 5125 * x.1 ∧ Tp 20000 [] m x.2.2.2.1 x.2.2.1) (fun x => 2 - x.1)
    (fun x => [(0, .t (.s (.loc 0 0)), none), (1, .t (.s (.loc 1 0)), none), (2, .t (.s (.loc 2 0)), none), (4, .t (.s (.loc 6 0)), none), (8, .t (.s (.int .i64 (x.1 : Int))), none)])
    (fun x => [.blk 115 [.loc 3 0, .sl 7 0 x.2.2.2.1.length x.2.2.2.2], .blk 26 x.2.1.sv, .blk 34 [.loc 3 0], .blk 33 [.sl 5 0 x.2.2.1.l.length x.2.2.1.l.length], .dead, mOwn x.2.2.1.l, .blk 26 Core.zero.sv, tR x.2.2.2.2 x.2.2.2.1]) (0, k, m, [], 0) ?_ ?_ ?_
  · exact ⟨Nat.zero_le _, hok', hR, Nat.le_refl _, Nat.le_refl _, Tp.refl _ _ _⟩
  · exact into [0, 1, 2, 3, 4, 5, 6, 7] ⟨⟨_, rfl, rfl⟩, ⟨_, rfl, rfl⟩, ⟨_, rfl, rfl⟩, ⟨_, rfl, rfl⟩, ⟨_, rfl, rfl⟩, trivial⟩ ⟨_, rfl, rfl⟩ rfl rfl rfl rfl
  · rintro ⟨j, k1, m1, T1, c1⟩ ⟨hj, hok1, hlaw1, hc1, hl1, hT1⟩
    simp only at hj hok1 hlaw1 hc1 hl1 hT1
    dsimp only
    have hj' : j = 0 ∨ j = 1 ∨ j = 2 := by omega
    rcases hj' with rfl | rfl | rfl
    · refine c_run' tt_ok ctTk2_ok k_timer_Tick_1 [100010] 60 (by kernel_rfl) (by kernel_rfl) ?_
      refine ⟨fun _ => ⟨.t (.s (.int .i64 0)), fun β => rfl, rfl, ?_⟩, fun h => absurd h (by decide)⟩
      show WpC _ _ _ _ _
      refine c_loop (α := Nat × Core × Ram × List (Int × Int) × Nat) (fun x => (1 ≤ x.1 ∧ x.1 ≤ 1025) ∧ x.2.1.ok ∧ (tikQ x.1 x.2.1 x.2.2.1 0).bind (fun r => tikQ queN r.1 r.2 1) = R ∧ x.2.2.2.1.length ≤ x.2.2.2.2 ∧ x.2.2.2.1.length + 5 * x.1 ≤ 5125 * 1 ∧ Tp 20000 [] m x.2.2.2.1 x.2.2.1) (fun x => x.1)
        (fun x => [(0, .t (.s (.loc 0 0)), none), (1, .t (.s (.loc 1 0)), none), (2, .t (.s (.loc 2 0)), none), (4, .t (.s (.loc 6 0)), none), (5, .t (.s (.int .i64 0)), none), (6, .t (.s (.int .i64 (1025 - (x.1 : Int)))), none), (8, .t (.s (.int .i64 ((0 : Nat) : Int))), none)])
        (fun x => [.blk 115 [.loc 3 0, .sl 7 0 x.2.2.2.1.length x.2.2.2.2], .blk 26 x.2.1.sv, .blk 34 [.loc 3 0], .blk 33 [.sl 5 0 x.2.2.1.l.length x.2.2.1.l.length], .dead, mOwn x.2.2.1.l, .blk 26 Core.zero.sv, tR x.2.2.2.2 x.2.2.2.1]) (queN, k1, m1, T1, c1) ?_ ?_ ?_
      · refine ⟨by show 1 ≤ queN ∧ queN ≤ 1025; rw [queN_eq]; omega, hok1, hlaw1, hc1, ?_, hT1⟩
        show T1.length + 5 * queN ≤ _
        rw [queN_eq]; omega
      · refine into [0, 1, 2, 3, 4, 5, 6, 7] ⟨⟨_, rfl, rfl⟩, ⟨_, rfl, rfl⟩, ⟨_, rfl, rfl⟩, ⟨_, rfl, rfl⟩, ⟨_, rfl, rfl⟩, ⟨_, rfl, ?_⟩, ⟨_, rfl, rfl⟩, trivial⟩ ⟨_, rfl, rfl⟩ rfl rfl rfl rfl
        rw [queN_eq]; rfl
      · rintro ⟨f, k2, m2, T2, c2⟩ ⟨hf, hok2, hlaw2, hc2, hl2, hT2⟩
        simp only at hf hok2 hlaw2 hc2 hl2 hT2
        obtain ⟨f, rfl⟩ : ∃ f', f = f' + 1 := ⟨f - 1, by omega⟩
        dsimp only
        have hn : decide (1025 - ((f + 1 : Nat) : Int) = 1024) = (f == 0) := by cases h : (f == 0) <;> simp at h ⊢ <;> omega
        rw [tikQ, show k2.tm ((0 : Int) == 1) = k2.t0 from rfl, show k2.ck ((0 : Int) == 1) = k2.k0 from rfl] at hlaw2
        refine c_run' tt_ok ctTk2_ok k_timer_Tick_1 [43] 60 (by kernel_rfl) (by kernel_rfl) ?_
        refine ⟨fun h1 => ⟨m2, ⟨rfl, rfl, rfl, rfl, hok2.t0⟩, fun h2 => ?_, fun h2 => ?_⟩, fun h1 => ?_⟩
        · rw [show (k2.t0 == NP) = false by simpa [NP] using h1, cond_false, show (!validB m2 k2.t0) = true from h2, cond_true] at hlaw2
          replace hlaw2 : none = R := hlaw2
          subst hlaw2
          refine l_iface rfl rfl trivial rfl rfl rfl rfl rfl ?_
          refine l_panic rfl trivial rfl ?_
          refine e_run tt_ok ctTk2_ok k_timer_Tick_1 [] 60 (by kernel_rfl) ?_
          exact fin_pan (hK (k2, T2, c2, m2) ⟨hT2, hc2⟩) [0, 1, 2, 3, 4, 5, 7] rfl rfl rfl rfl
        · rw [show (k2.t0 == NP) = false by simpa [NP] using h1, cond_false, show (!validB m2 k2.t0) = false from h2, cond_false] at hlaw2
          show WpC _ _ _ _ _
          refine c_waysH tt_ok ctTk2_ok k_timer_Tick_1 [1] rfl rfl rfl ?_
          repeat' (first | exact trivial | exact ⟨rfl, trivial⟩ | (refine Exists.intro m2 ?_; refine And.intro ⟨rfl, rfl, rfl, rfl, I32_wrap _⟩ ?_) | (refine And.intro ?_ ?_) | (refine fun _ => ?_))
          refine e_run tt_ok ctTk2_ok k_timer_Tick_1 [43] 60 (by kernel_rfl) ?_
          refine ⟨fun h3 => ?_, fun h3 => ⟨fun h4 => ?_, fun h4 => ?_⟩⟩
          · rw [show aftB (m2.word (IntKind.i32.wrap (k2.t0 + -20))) k2.k0 = true from h3, cond_true] at hlaw2
            refine e_again (1, k2, m2, T2, c2) ⟨by dsimp only; omega, hok2, hlaw2, hc2, by dsimp only; omega, hT2⟩ (by dsimp only; omega) (into [0, 1, 2, 3, 4, 5, 6, 7] ⟨⟨_, rfl, rfl⟩, ⟨_, rfl, rfl⟩, ⟨_, rfl, rfl⟩, ⟨_, rfl, rfl⟩, ⟨_, rfl, rfl⟩, trivial⟩ ⟨_, rfl, rfl⟩ rfl rfl rfl rfl)
          · have h4' : (f == 0) = true := by have h4'' : ((1025 - ((f + 1 : Nat) : Int)) == 1024) = true := h4; simp at h4'' ⊢; omega
            rw [show aftB (m2.word (IntKind.i32.wrap (k2.t0 + -20))) k2.k0 = false from h3, cond_false, h4', cond_true] at hlaw2
            replace hlaw2 : none = R := hlaw2
            subst hlaw2
            refine l_iface rfl rfl trivial rfl rfl rfl rfl rfl ?_
            refine l_panic rfl trivial rfl ?_
            refine e_run tt_ok ctTk2_ok k_timer_Tick_1 [] 60 (by kernel_rfl) ?_
            exact fin_pan (hK (k2, T2, c2, m2) ⟨hT2, hc2⟩) [0, 1, 2, 3, 4, 5, 7] rfl rfl rfl rfl
          · have h4' : (f == 0) = false := by have h4'' : ((1025 - ((f + 1 : Nat) : Int)) == 1024) = false := h4; simp at h4'' ⊢; omega
            rw [show aftB (m2.word (IntKind.i32.wrap (k2.t0 + -20))) k2.k0 = false from h3, cond_false, h4', cond_false] at hlaw2
            have hf1 : f ≠ 0 := by simpa using h4'
            have h2v : validB m2 k2.t0 = true := by simpa using h2
            show WpL _ _ _ _ _ _
            rcases hS : wakR k2 m2 0 with _ | ⟨k', m'⟩
            · rw [hS] at hlaw2
              replace hlaw2 : none = R := hlaw2
              subst hlaw2
              refine l_callX xWak cal_timer_tape_wake rfl rfl rfl trivial rfl rfl rfl rfl rfl ?_
              refine ⟨(T2, m2, none), ⟨rfl, rfl, rfl, rfl, rfl, rfl, rfl, ⟨hok2, .inl rfl, h2v, by dsimp only; omega, hc2⟩, hS⟩, fun x hx => ?_⟩
              refine e_run tt_ok ctTk2_ok k_timer_Tick_1 [] 60 (by kernel_rfl) ?_
              have hx1 := hT2.trans hx.1
              have hxl : x.1.length ≤ T2.length + 5 := hx.1.len
              exact fin_pan (hK (k2, x.1, x.2.1, x.2.2) ⟨⟨hx1.back, by simp only [List.length_nil]; omega, hx1.ok, hx1.sz⟩, hx.2⟩) [0, 1, 2, 3, 4, 5, 8] rfl rfl rfl rfl
            · rw [hS] at hlaw2
              refine l_callX xWak cal_timer_tape_wake rfl rfl rfl trivial rfl rfl rfl rfl rfl ?_
              refine ⟨(T2, m2, some (k', m')), ⟨rfl, rfl, rfl, rfl, rfl, rfl, rfl, ⟨hok2, .inl rfl, h2v, by dsimp only; omega, hc2⟩, hS⟩, fun x hx => ?_⟩
              refine l_run tt_ok ctTk2_ok k_timer_Tick_1 [] 60 (by kernel_rfl) (by kernel_rfl) ?_
              have hx1 := hT2.trans hx.1
              have hxl : x.1.length ≤ T2.length + 5 := hx.1.len
              refine e_again (f, k', m', x.1, x.2) ⟨by dsimp only; omega, wakR_ok hok2 hS, hlaw2, hx.2, by dsimp only; omega, ⟨hx1.back, by simp only [List.length_nil]; omega, hx1.ok, hx1.sz⟩⟩ (Nat.lt_succ_self f) (into [0, 1, 2, 3, 4, 5, 6, 8] ⟨⟨_, rfl, rfl⟩, ⟨_, rfl, rfl⟩, ⟨_, rfl, rfl⟩, ⟨_, rfl, rfl⟩, ⟨_, rfl, rfl⟩, ⟨_, rfl, ?_⟩, ⟨_, rfl, rfl⟩, trivial⟩ ⟨_, rfl, rfl⟩ rfl rfl rfl rfl)
              show FV.t (.s (.int .i64 (IntKind.i64.wrap (1025 - ((f + 1 : Nat) : Int) + 1)))) = .t (.s (.int .i64 (1025 - (f : Int))))
              rw [wrap64 (by omega) (by omega)]
              congr 3; omega
        · rw [show (k2.t0 == NP) = true by simpa [NP] using h1, cond_true] at hlaw2
          refine e_again (1, k2, m2, T2, c2) ⟨by dsimp only; omega, hok2, hlaw2, hc2, by dsimp only; omega, hT2⟩ (by dsimp only; omega) (into [0, 1, 2, 3, 4, 5, 6, 7] ⟨⟨_, rfl, rfl⟩, ⟨_, rfl, rfl⟩, ⟨_, rfl, rfl⟩, ⟨_, rfl, rfl⟩, ⟨_, rfl, rfl⟩, trivial⟩ ⟨_, rfl, rfl⟩ rfl rfl rfl rfl)
    · refine c_run' tt_ok ctTk2_ok k_timer_Tick_1 [100010] 60 (by kernel_rfl) (by kernel_rfl) ?_
      refine ⟨fun _ => ⟨.t (.s (.int .i64 1)), fun β => rfl, rfl, ?_⟩, fun h => absurd h (by decide)⟩
      show WpC _ _ _ _ _
      refine c_loop (α := Nat × Core × Ram × List (Int × Int) × Nat) (fun x => (1 ≤ x.1 ∧ x.1 ≤ 1025) ∧ x.2.1.ok ∧ tikQ x.1 x.2.1 x.2.2.1 1 = R ∧ x.2.2.2.1.length ≤ x.2.2.2.2 ∧ x.2.2.2.1.length + 5 * x.1 ≤ 5125 * 2 ∧ Tp 20000 [] m x.2.2.2.1 x.2.2.1) (fun x => x.1)
        (fun x => [(0, .t (.s (.loc 0 0)), none), (1, .t (.s (.loc 1 0)), none), (2, .t (.s (.loc 2 0)), none), (4, .t (.s (.loc 6 0)), none), (5, .t (.s (.int .i64 1)), none), (6, .t (.s (.int .i64 (1025 - (x.1 : Int)))), none), (8, .t (.s (.int .i64 ((1 : Nat) : Int))), none)])
        (fun x => [.blk 115 [.loc 3 0, .sl 7 0 x.2.2.2.1.length x.2.2.2.2], .blk 26 x.2.1.sv, .blk 34 [.loc 3 0], .blk 33 [.sl 5 0 x.2.2.1.l.length x.2.2.1.l.length], .dead, mOwn x.2.2.1.l, .blk 26 Core.zero.sv, tR x.2.2.2.2 x.2.2.2.1]) (queN, k1, m1, T1, c1) ?_ ?_ ?_
      · refine ⟨by show 1 ≤ queN ∧ queN ≤ 1025; rw [queN_eq]; omega, hok1, hlaw1, hc1, ?_, hT1⟩
        show T1.length + 5 * queN ≤ _
        rw [queN_eq]; omega
      · refine into [0, 1, 2, 3, 4, 5, 6, 7] ⟨⟨_, rfl, rfl⟩, ⟨_, rfl, rfl⟩, ⟨_, rfl, rfl⟩, ⟨_, rfl, rfl⟩, ⟨_, rfl, rfl⟩, ⟨_, rfl, ?_⟩, ⟨_, rfl, rfl⟩, trivial⟩ ⟨_, rfl, rfl⟩ rfl rfl rfl rfl
        rw [queN_eq]; rfl
      · rintro ⟨f, k2, m2, T2, c2⟩ ⟨hf, hok2, hlaw2, hc2, hl2, hT2⟩
        simp only at hf hok2 hlaw2 hc2 hl2 hT2
        obtain ⟨f, rfl⟩ : ∃ f', f = f' + 1 := ⟨f - 1, by omega⟩
        dsimp only
        have hn : decide (1025 - ((f + 1 : Nat) : Int) = 1024) = (f == 0) := by cases h : (f == 0) <;> simp at h ⊢ <;> omega
        rw [tikQ, show k2.tm ((1 : Int) == 1) = k2.t1 from rfl, show k2.ck ((1 : Int) == 1) = k2.k1 from rfl] at hlaw2
        refine c_run' tt_ok ctTk2_ok k_timer_Tick_1 [43] 60 (by kernel_rfl) (by kernel_rfl) ?_
        refine ⟨fun h1 => ⟨m2, ⟨rfl, rfl, rfl, rfl, hok2.t1⟩, fun h2 => ?_, fun h2 => ?_⟩, fun h1 => ?_⟩
        · rw [show (k2.t1 == NP) = false by simpa [NP] using h1, cond_false, show (!validB m2 k2.t1) = true from h2, cond_true] at hlaw2
          replace hlaw2 : none = R := hlaw2
          subst hlaw2
          refine l_iface rfl rfl trivial rfl rfl rfl rfl rfl ?_
          refine l_panic rfl trivial rfl ?_
          refine e_run tt_ok ctTk2_ok k_timer_Tick_1 [] 60 (by kernel_rfl) ?_
          exact fin_pan (hK (k2, T2, c2, m2) ⟨hT2, hc2⟩) [0, 1, 2, 3, 4, 5, 7] rfl rfl rfl rfl
        · rw [show (k2.t1 == NP) = false by simpa [NP] using h1, cond_false, show (!validB m2 k2.t1) = false from h2, cond_false] at hlaw2
          show WpC _ _ _ _ _
          refine c_waysH tt_ok ctTk2_ok k_timer_Tick_1 [1] rfl rfl rfl ?_
          repeat' (first | exact trivial | exact ⟨rfl, trivial⟩ | (refine Exists.intro m2 ?_; refine And.intro ⟨rfl, rfl, rfl, rfl, I32_wrap _⟩ ?_) | (refine And.intro ?_ ?_) | (refine fun _ => ?_))
          refine e_run tt_ok ctTk2_ok k_timer_Tick_1 [43] 60 (by kernel_rfl) ?_
          refine ⟨fun h3 => ?_, fun h3 => ⟨fun h4 => ?_, fun h4 => ?_⟩⟩
          · rw [show aftB (m2.word (IntKind.i32.wrap (k2.t1 + -20))) k2.k1 = true from h3, cond_true] at hlaw2
            refine e_again (2, k2, m2, T2, c2) ⟨by dsimp only; omega, hok2, hlaw2, hc2, by dsimp only; omega, hT2⟩ (by dsimp only; omega) (into [0, 1, 2, 3, 4, 5, 6, 7] ⟨⟨_, rfl, rfl⟩, ⟨_, rfl, rfl⟩, ⟨_, rfl, rfl⟩, ⟨_, rfl, rfl⟩, ⟨_, rfl, rfl⟩, trivial⟩ ⟨_, rfl, rfl⟩ rfl rfl rfl rfl)
          · have h4' : (f == 0) = true := by have h4'' : ((1025 - ((f + 1 : Nat) : Int)) == 1024) = true := h4; simp at h4'' ⊢; omega
            rw [show aftB (m2.word (IntKind.i32.wrap (k2.t1 + -20))) k2.k1 = false from h3, cond_false, h4', cond_true] at hlaw2
            replace hlaw2 : none = R := hlaw2
            subst hlaw2
            refine l_iface rfl rfl trivial rfl rfl rfl rfl rfl ?_
            refine l_panic rfl trivial rfl ?_
            refine e_run tt_ok ctTk2_ok k_timer_Tick_1 [] 60 (by kernel_rfl) ?_
            exact fin_pan (hK (k2, T2, c2, m2) ⟨hT2, hc2⟩) [0, 1, 2, 3, 4, 5, 7] rfl rfl rfl rfl
          · have h4' : (f == 0) = false := by have h4'' : ((1025 - ((f + 1 : Nat) : Int)) == 1024) = false := h4; simp at h4'' ⊢; omega
            rw [show aftB (m2.word (IntKind.i32.wrap (k2.t1 + -20))) k2.k1 = false from h3, cond_false, h4', cond_false] at hlaw2
            have hf1 : f ≠ 0 := by simpa using h4'
            have h2v : validB m2 k2.t1 = true := by simpa using h2
            show WpL _ _ _ _ _ _
            rcases hS : wakR k2 m2 1 with _ | ⟨k', m'⟩
            · rw [hS] at hlaw2
              replace hlaw2 : none = R := hlaw2
              subst hlaw2
              refine l_callX xWak cal_timer_tape_wake rfl rfl rfl trivial rfl rfl rfl rfl rfl ?_
              refine ⟨(T2, m2, none), ⟨rfl, rfl, rfl, rfl, rfl, rfl, rfl, ⟨hok2, .inr rfl, h2v, by dsimp only; omega, hc2⟩, hS⟩, fun x hx => ?_⟩
              refine e_run tt_ok ctTk2_ok k_timer_Tick_1 [] 60 (by kernel_rfl) ?_
              have hx1 := hT2.trans hx.1
              have hxl : x.1.length ≤ T2.length + 5 := hx.1.len
              exact fin_pan (hK (k2, x.1, x.2.1, x.2.2) ⟨⟨hx1.back, by simp only [List.length_nil]; omega, hx1.ok, hx1.sz⟩, hx.2⟩) [0, 1, 2, 3, 4, 5, 8] rfl rfl rfl rfl
            · rw [hS] at hlaw2
              refine l_callX xWak cal_timer_tape_wake rfl rfl rfl trivial rfl rfl rfl rfl rfl ?_
              refine ⟨(T2, m2, some (k', m')), ⟨rfl, rfl, rfl, rfl, rfl, rfl, rfl, ⟨hok2, .inr rfl, h2v, by dsimp only; omega, hc2⟩, hS⟩, fun x hx => ?_⟩
              refine l_run tt_ok ctTk2_ok k_timer_Tick_1 [] 60 (by kernel_rfl) (by kernel_rfl) ?_
              have hx1 := hT2.trans hx.1
              have hxl : x.1.length ≤ T2.length + 5 := hx.1.len
              refine e_again (f, k', m', x.1, x.2) ⟨by dsimp only; omega, wakR_ok hok2 hS, hlaw2, hx.2, by dsimp only; omega, ⟨hx1.back, by simp only [List.length_nil]; omega, hx1.ok, hx1.sz⟩⟩ (Nat.lt_succ_self f) (into [0, 1, 2, 3, 4, 5, 6, 8] ⟨⟨_, rfl, rfl⟩, ⟨_, rfl, rfl⟩, ⟨_, rfl, rfl⟩, ⟨_, rfl, rfl⟩, ⟨_, rfl, rfl⟩, ⟨_, rfl, ?_⟩, ⟨_, rfl, rfl⟩, trivial⟩ ⟨_, rfl, rfl⟩ rfl rfl rfl rfl)
              show FV.t (.s (.int .i64 (IntKind.i64.wrap (1025 - ((f + 1 : Nat) : Int) + 1)))) = .t (.s (.int .i64 (1025 - (f : Int))))
              rw [wrap64 (by omega) (by omega)]
              congr 3; omega
        · rw [show (k2.t1 == NP) = true by simpa [NP] using h1, cond_true] at hlaw2
          refine e_again (2, k2, m2, T2, c2) ⟨by dsimp only; omega, hok2, hlaw2, hc2, by dsimp only; omega, hT2⟩ (by dsimp only; omega) (into [0, 1, 2, 3, 4, 5, 6, 7] ⟨⟨_, rfl, rfl⟩, ⟨_, rfl, rfl⟩, ⟨_, rfl, rfl⟩, ⟨_, rfl, rfl⟩, ⟨_, rfl, rfl⟩, trivial⟩ ⟨_, rfl, rfl⟩ rfl rfl rfl rfl)
    · refine c_run' tt_ok ctTk2_ok k_timer_Tick_1 [] 60 (by kernel_rfl) (by kernel_rfl) ?_
      refine ⟨fun h => absurd h (by decide), fun _ => ?_⟩
      replace hlaw1 : some (k1, m1) = R := hlaw1
      subst hlaw1
      exact fin_kX tt_ok (rs := rs_timer_Tick_1) rfl rfl (hK (T1, c1) hc1) [0, 1, 2, 3, 4, 5, 7] rfl rfl rfl rfl rfl rfl rfl
end Go.Proofs

namespace Go.Proofs
open Go Go.Sx
set_option maxRecDepth 10000
noncomputable abbrev xK1 : XI f_timer_Tick_1 := fun cargs σ0 => match cargs, σ0 with
  | [.s (.loc 0 0), .s (.loc 1 0), .s (.loc 2 0)], [.blk 115 [.loc 3 0, .sl 4 0 0 0], .blk 26 cs, .blk 34 [.loc 3 0], .blk 33 [.sl 5 0 k k'], .own 22 2 0 [], .own 5 1 c xs] => withCore cs fun q hq =>
    some ⟨.ex (Ram × Option (Core × Ram)) fun y => .ask (k = y.1.l.length ∧ k' = y.1.l.length ∧ c = y.1.l.length ∧ xs = bytesI y.1.l ∧ q.ok ∧ tikF 0 q y.1 = y.2)
      (oK1 y.1 y.2), fun K h => by
      obtain ⟨⟨m, r⟩, ⟨e1, e2, e3, e4, e8, e13⟩, h⟩ := h
      dsimp only at e1 e2 e3 e4 e8 e13 h
      subst e1; subst e2; subst e3; subst e4; subst hq; subst e13
      exact Tick1_c m q e8 K h⟩
  | _, _ => none
/-- What Tick's try leaves: the core in the variable is any. -/
def oTK (_m : Ram) (r : Core × Int × Ram) : Out := .all Core (fun _ => True) fun x => .ret (.tup [.agg r.1.sv, .s (.int .i64 r.2.1)]) [.blk 33 [.sl 3 0 r.2.2.l.length r.2.2.l.length], .blk 26 x.sv, .blk 34 [.loc 0 0], mOwn r.2.2.l]
theorem tryK_c (m : Ram) (k : Core) (hok : k.ok) :
    Con Try.prog f_timer_try [.s (.loc 0 0), .clo (.func 42) [] [.loc 1 0, .loc 2 0]] [.blk 33 [.sl 3 0 m.l.length m.l.length], .blk 26 k.sv, .blk 34 [.loc 0 0], mOwn m.l]
    (oTK m (tryR m (tikF 0 k m))) := by
  intro K hK
  refine enterDf fn_timer_try rfl nt_timer_try rfl rfl (fun φ w0 β0 F => ?_)
  refine c_run tt_ok (ct := []) trivial k_timer_try [13] 60 (by kernel_rfl) ?_
  show WpL _ _ _ _ _ _
  refine WpL.into (nilCell2 7 22 2 rfl) ?_
  refine l_defer rfl rfl rfl rfl rfl trivial rfl rfl (fun D hD => ?_)
  refine l_run tt_ok (ct := []) trivial k_timer_try [13] 60 (by kernel_rfl) (by kernel_rfl) ?_
  show WpL _ _ _ _ _ _
  rcases hI : tikF 0 k m with _ | ⟨k', m'⟩
  · rw [hI] at hK
    refine l_callX xK1 cal_timer_Tick_1 rfl rfl rfl trivial rfl rfl rfl rfl rfl ?_
    refine ⟨(m, none), ⟨rfl, rfl, rfl, rfl, hok, hI⟩, fun x hx => ?_⟩
    refine e_run tt_ok (ct := []) trivial k_timer_try [] 60 (by kernel_rfl) ?_
    refine door (.panicking chR) hD rfl cal_timer_try_1 (.inr ⟨chT, rfl, rfl⟩) rfl (try1_L (C := .zero) (E := 0) [8, 4, 5, 6, 7, 0, 10, 3] (by decide) hx.1 (by decide) rfl rfl) (fun τ hτ => ?_)
    subst hτ
    exact fin_k tt_ok (rs := rs_timer_try) rfl rfl (hK x.1 trivial) [0, 1, 2, 3] rfl rfl rfl rfl rfl rfl
  · rw [hI] at hK
    refine l_callX xK1 cal_timer_Tick_1 rfl rfl rfl trivial rfl rfl rfl rfl rfl ?_
    refine ⟨(m, some (k', m')), ⟨rfl, rfl, rfl, rfl, hok, hI⟩, fun x hx => ?_⟩
    refine l_run tt_ok (ct := []) trivial k_timer_try [] 60 (by kernel_rfl) (by kernel_rfl) ?_
    refine door .returning hD rfl cal_timer_try_1 (.inl ⟨rfl, .inl rfl⟩) rfl (try1_D0 _ _ _ _ _) (fun τ hτ => ?_)
    subst hτ
    exact fin_k tt_ok (rs := rs_timer_try) rfl rfl (hK k' trivial) [0, 1, 2, 3] rfl rfl rfl rfl rfl rfl
noncomputable abbrev eTryK : Ent := .st (conS (P := Try.prog) (f := f_timer_try) fun cargs σ0 => match cargs, σ0 with
  | [.s (.loc 0 0), .clo (.func 42) [] [.loc 1 0, .loc 2 0]], [.blk 33 [.sl 3 0 n n'], .blk 26 cs, .blk 34 [.loc 0 0], .own 5 1 c xs] => withCore cs fun q hq =>
    some ⟨.ex (Ram × Core × Int × Ram) fun y => .ask (n = y.1.l.length ∧ n' = y.1.l.length ∧ c = y.1.l.length ∧ xs = bytesI y.1.l ∧ q.ok ∧ tryR y.1 (tikF 0 q y.1) = y.2)
      (oTK y.1 y.2), fun K h => by
      obtain ⟨⟨m, r⟩, ⟨e1, e2, e3, e4, e5, e8⟩, h⟩ := h
      dsimp only at e1 e2 e3 e4 e8 h
      subst e1; subst e2; subst e3; subst e4; subst hq; subst e8
      exact tryK_c m q e5 K h⟩
  | _, _ => none)
/-- The clocks go on. -/
def Core.adv (k : Core) : Core :=
  bif bif decide (IntKind.i32.wrap (k.ticks + 1) ≤ 0) then true else decide (IntKind.i32.wrap (k.ticks + 1) > 63) then { k with k0 := IntKind.i32.wrap (k.k0 + 1), ticks := 0, k1 := IntKind.i32.wrap (k.k1 + 1) }
  else { k with k0 := IntKind.i32.wrap (k.k0 + 1), ticks := IntKind.i32.wrap (k.ticks + 1) }
theorem adv_ok {k : Core} (h : k.ok) : k.adv.ok := by
  unfold Core.adv
  cases (bif decide (IntKind.i32.wrap (k.ticks + 1) ≤ 0) then true else decide (IntKind.i32.wrap (k.ticks + 1) > 63))
  · exact { h with k0 := I32_wrap _, ticks := I32_wrap _ }
  · exact { h with k0 := I32_wrap _, ticks := (show I32 0 from ⟨by decide, by decide⟩), k1 := I32_wrap _ }
def ttkR (k : Core) (m : Ram) : Core × Int × Ram := bif k.halted then (k, 0, m) else tryR m (tikF 0 k.adv m)
noncomputable abbrev ctTc : CT := [(f_mem_Mem_Size, eSizeT), (f_timer_try, eTryK)]
theorem ctTc_ok : CTok Try.prog ctTc := ⟨con_ok cal_mem_Mem_Size _, con_ok cal_timer_try _, trivial⟩
theorem tTick_c (k : Core) (m : Ram) (hok : k.ok) :
    Con Try.prog f_timer_Tick [.agg k.sv, .s (.loc 0 0)] [mBox m.l.length, mOwn m.l]
    (.ret (.tup [.agg (ttkR k m).1.sv, .s (.int .i64 (ttkR k m).2.1)]) [mBox (ttkR k m).2.2.l.length, mOwn (ttkR k m).2.2.l]) := by
  intro K hK
  obtain ⟨⟨k', e, m'⟩, hR⟩ : ∃ R, ttkR k m = R := ⟨_, rfl⟩
  rw [hR] at hK
  unfold ttkR at hR
  have h0 := m.lo
  have hadv := adv_ok hok
  refine enter fn_timer_Tick rfl nt_timer_Tick rfl rfl (fun φ w0 β0 F => ?_)
  refine c_run tt_ok ctTc_ok k_timer_Tick [] 60 (by kernel_rfl) ?_
  refine ⟨fun h => ?_, fun _ => ⟨fun h1 => ?_, fun h1 => ?_⟩⟩
  · exfalso; have := of_decide_eq_true h; omega
  · rw [show k.halted = true from h1] at hR
    cases hR
    exact fin_k tt_ok (rs := rs_timer_Tick) rfl rfl hK [0, 1] rfl rfl rfl rfl rfl rfl
  · rw [show k.halted = false from h1, cond_false] at hR
    unfold Core.adv at hR hadv
    refine ⟨fun h2 => ?_, fun h2 => ?_⟩
    · rw [show (bif decide (IntKind.i32.wrap (k.ticks + 1) ≤ 0) then true else decide (IntKind.i32.wrap (k.ticks + 1) > 63)) = true from h2, cond_true] at hR hadv
      refine ⟨(m, k', e, m'), ⟨rfl, rfl, rfl, rfl, hadv, hR⟩, fun x _ => ?_⟩
      exact fin_k tt_ok (rs := rs_timer_Tick) rfl rfl hK [0, 1] rfl rfl rfl rfl rfl rfl
    · rw [show (bif decide (IntKind.i32.wrap (k.ticks + 1) ≤ 0) then true else decide (IntKind.i32.wrap (k.ticks + 1) > 63)) = false from h2, cond_false] at hR hadv
      refine ⟨(m, k', e, m'), ⟨rfl, rfl, rfl, rfl, hadv, hR⟩, fun x _ => ?_⟩
      exact fin_k tt_ok (rs := rs_timer_Tick) rfl rfl hK [0, 1] rfl rfl rfl rfl rfl rfl
noncomputable abbrev eTTick : Ent := .st (conS (P := Try.prog) (f := f_timer_Tick) fun cargs σ0 => match cargs, σ0 with
  | [.agg cs, .s (.loc 0 0)], [.blk 33 [.sl 1 0 n n'], .own 5 1 c xs] => withCore cs fun q hq => some ⟨.ex (Ram × Core × Int × Ram) fun y => .ask (n = y.1.l.length ∧ n' = y.1.l.length ∧ c = y.1.l.length ∧ xs = bytesI y.1.l ∧ q.ok ∧ ttkR q y.1 = y.2)
      (.ret (.tup [.agg y.2.1.sv, .s (.int .i64 y.2.2.1)]) [mBox y.2.2.2.l.length, mOwn y.2.2.2.l]), fun K h => by
      obtain ⟨⟨m, r⟩, ⟨e1, e2, e3, e4, h1, h2⟩, h⟩ := h
      dsimp only at e1 e2 e3 e4 h2 h
      subst e1; subst e2; subst e3; subst e4; subst hq
      refine tTick_c q m h1 K ?_
      rw [h2]; exact h⟩
  | _, _ => none)
end Go.Proofs

namespace Go.Proofs
open Go Go.Sx
set_option maxRecDepth 10000
def hc0 : Core := { K0 with wptr := -2147483520, busy := true, k0 := 10, a := 12 }
def hc1 : Core := { K0 with t0 := -2147483520, k0 := 10 }
def hc3 : Core := { K0 with t0 := -2147483520, k0 := 11, ticks := 1 }
def hc4 : Core := { K0 with t0 := -2147483520, k0 := 12, ticks := 2 }
def hc5 : Core := { K0 with f0 := -2147483520, b0 := -2147483520, k0 := 13, ticks := 3 }
theorem hc0_ok : hc0.ok := by constructor <;> exact ⟨by decide, by decide⟩
theorem hc1_ok : hc1.ok := by constructor <;> exact ⟨by decide, by decide⟩
theorem hc3_ok : hc3.ok := by constructor <;> exact ⟨by decide, by decide⟩
theorem hc4_ok : hc4.ok := by constructor <;> exact ⟨by decide, by decide⟩
theorem hc5_ok : hc5.ok := by constructor <;> exact ⟨by decide, by decide⟩
def hm1 : Ram := (texR hc0 Ram.z 15 43).2.2
def hm2 : Ram := (tinR hc1 hm1 (-2147483392) 13 0).2.2
def hm3 : Ram := (ttkR hc4 hm2).2.2
theorem head_facts : ∃ m1 m2 m3 : Ram, texR hc0 Ram.z 15 43 = (hc1, 0, m1) ∧ tinR hc1 m1 (-2147483392) 13 0 = (hc1, 0, m2) ∧ tqeR hc1 m2 0 = ([-2147483520, -2147483392], 0) ∧ ttkR hc1 m2 = (hc3, 0, m2) ∧ ttkR hc3 m2 = (hc4, 0, m2) ∧
    tqeR hc4 m2 0 = ([-2147483520, -2147483392], 0) ∧ ttkR hc4 m2 = (hc5, 0, m3) ∧ trmR hc5 m3 (-2147483392) 0 = (.zero, 6, m3) ∧ tqeR hc5 m3 2 = ([], 2) :=
  ⟨hm1, hm2, hm3, by kernel_rfl, by kernel_rfl, by kernel_rfl, by kernel_rfl, by kernel_rfl, by kernel_rfl, by kernel_rfl, by kernel_rfl, by kernel_rfl⟩
noncomputable abbrev ctHd : CT := [(f_mem_New, eNew), (f_r29_Reset, eReset), (f_l32_running, in_l32_running [(f_r29_Nobody, in_r29_Nobody [])]), (f_l32_op, in_l32_op []), (f_timer_Exec, eTExec), (f_timer_Insert, eInsert), (f_timer_Queue, eTQueue), (f_timer_Tick, eTTick), (f_timer_Remove, eTRem), (f_r29_Same, .rd rdSame)]
theorem ctHd_ok : CTok Try.prog ctHd := ⟨con_ok cal_mem_New _, con_ok cal_r29_Reset _, in_l32_running_ok ⟨in_r29_Nobody_ok (ct := []) trivial, trivial⟩, in_l32_op_ok (ct := []) trivial, con_ok cal_timer_Exec _, con_ok cal_timer_Insert _, con_ok cal_timer_Queue _, con_ok cal_timer_Tick _, con_ok cal_timer_Remove _, re_same, trivial⟩
theorem c_merge {X : Cx} {c : Code} {Q : Exit → Act → World → Prop} {fr : Fr} {σ : List Ch} (fr' : Fr) (σ' : List Ch) (ways : WpE X Q .normal fr' σ' → WpC X c Q fr σ) (cont : WpE X Q .normal fr' σ') : WpC X c Q fr σ := ways cont
theorem told_tr {b : Bool} {β : Nat → Bd} (h : b = true) : (FV.t (.s (.bool true))).den β = (FV.t (.s (.bool b))).den β := by rw [h]
set_option maxHeartbeats 4000000 in
theorem head_c : Con Try.prog f_l32_head [] [] (.ret (.t (.s (.bool true))) []) := by
  intro K hK
  obtain ⟨m1, m2, m3, hx1, hi2, hq3, ht4, ht5, hq6, ht7, hr8, hq9⟩ := head_facts
  refine enter fn_l32_head rfl nt_l32_head rfl rfl (fun φ w0 β0 F => ?_)
  refine c_run tt_ok ctHd_ok k_l32_head [] 90 (by kernel_rfl) ?_
  refine ⟨fun _ => ?_, fun h => absurd h (by decide)⟩
  show WpC _ _ _ _ _
  refine c_ways tt_ok ctHd_ok k_l32_head rfl rfl ?_
  repeat' (first | exact trivial | (refine Exists.intro (Ram.z, hc1, 0, m1) ?_; refine And.intro ⟨rfl, rfl, rfl, rfl, hc0_ok, hx1⟩ ?_) | (refine And.intro ?_ ?_) | (refine fun _ => ?_))
  all_goals
    refine e_run tt_ok ctHd_ok k_l32_head [100087, 100091, 100095, 100099, 100103, 100107, 100114, 100119, 100125, 100131, 100138, 100145, 100149, 100153] 90 (by kernel_rfl) ?_
    refine ⟨(m1, hc1, 0, m2), ⟨rfl, rfl, rfl, rfl, ⟨hc1_ok, by unfold I32; decide, by decide, by decide⟩, hi2⟩, ?_⟩
    refine ⟨(m2, [-2147483520, -2147483392], 0), ⟨rfl, rfl, rfl, rfl, ⟨hc1_ok, by decide, by decide⟩, hq3⟩, fun cq hcq => ?_⟩
    refine ⟨(m2, hc3, 0, m2), ⟨rfl, rfl, rfl, rfl, hc1_ok, ht4⟩, ?_⟩
    refine ⟨(m2, hc4, 0, m2), ⟨rfl, rfl, rfl, rfl, hc3_ok, ht5⟩, ?_⟩
    refine ⟨(m2, [-2147483520, -2147483392], 0), ⟨rfl, rfl, rfl, rfl, ⟨hc4_ok, by decide, by decide⟩, hq6⟩, fun cq2 hcq2 => ?_⟩
    refine ⟨(m2, hc5, 0, m3), ⟨rfl, rfl, rfl, rfl, hc4_ok, ht7⟩, ?_⟩
    refine ⟨(m3, .zero, 6, m3), ⟨rfl, rfl, rfl, rfl, ⟨hc5_ok, by decide, by decide⟩, hr8⟩, ?_⟩
    refine ⟨(m3, [], 2), ⟨rfl, rfl, rfl, rfl, ⟨hc5_ok, by decide, by decide⟩, hq9⟩, fun cq3 hcq3 => ?_⟩
    refine ⟨.t (.s (.bool true)), fun β => told_tr (by first | decide | rfl), rfl, ?_⟩
    refine ⟨.t (.s (.bool true)), fun β => told_tr (by first | decide | rfl), rfl, ?_⟩
    refine ⟨.t (.s (.bool true)), fun β => told_tr (by first | decide | rfl), rfl, ?_⟩
    refine ⟨.t (.s (.bool true)), fun β => told_tr (by first | decide | rfl), rfl, ?_⟩
    refine ⟨.t (.s (.bool true)), fun β => told_tr (by first | decide | rfl), rfl, ?_⟩
    refine ⟨.t (.s (.bool true)), fun β => told_tr (by first | decide | rfl), rfl, ?_⟩
    refine ⟨fun _ => ⟨fun _ => ⟨([-2147483520, -2147483392], [-2147483520, -2147483392]), ⟨rfl, rfl, rfl, rfl, by decide⟩, ?_⟩, fun h => absurd h (by decide)⟩, fun h => absurd h (by decide)⟩
    refine ⟨.t (.s (.bool true)), fun β => told_tr (by first | decide | rfl), rfl, ?_⟩
    refine ⟨.t (.s (.bool true)), fun β => told_tr (by first | decide | rfl), rfl, ?_⟩
    refine ⟨.t (.s (.bool true)), fun β => told_tr (by first | decide | rfl), rfl, ?_⟩
    refine ⟨.t (.s (.bool true)), fun β => told_tr (by first | decide | rfl), rfl, ?_⟩
    refine ⟨.t (.s (.bool true)), fun β => told_tr (by first | decide | rfl), rfl, ?_⟩
    refine ⟨.t (.s (.bool true)), fun β => told_tr (by first | decide | rfl), rfl, ?_⟩
    refine ⟨.t (.s (.bool true)), fun β => told_tr (by first | decide | rfl), rfl, ?_⟩
    refine ⟨.t (.s (.bool true)), fun β => told_tr (by first | decide | rfl), rfl, ?_⟩
    exact fin_k tt_ok (rs := rs_l32_head) rfl rfl hK [] rfl rfl rfl rfl rfl rfl
noncomputable abbrev eHead : Ent := .st (conS (P := Try.prog) (f := f_l32_head) fun cargs σ0 => match cargs, σ0 with
  | [], [] => some ⟨.ret (.t (.s (.bool true))) [], head_c⟩
  | _, _ => none)
end Go.Proofs
