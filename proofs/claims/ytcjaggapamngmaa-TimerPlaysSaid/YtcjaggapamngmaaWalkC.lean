/- sched.Take, start. -/
import Derived.Test.YtcjaggapamngmaaWalkB
import Derived.Test.YtcjaggapamngmaaSxD

namespace Go.Proofs
open Go Go.Sx
set_option maxRecDepth 10000
noncomputable abbrev ctWo : CT := [(f_mem_Mem_Word, eWordT)]
theorem ctWo_ok : CTok Try.prog ctWo := ⟨con_ok cal_mem_Mem_Word _, trivial⟩
theorem or1 {p : Int} (hp : -9223372036854775808 ≤ p ∧ p ≤ 9223372036854775807) (h0 : p ≠ 0) (h1 : p ≠ 1) : bits .or .i64 p 1 ≠ 1 := by
  intro h
  have e : bits .or .i64 p 1 = IntKind.i64.wrap ((BitVec.ofInt 64 p ||| BitVec.ofInt 64 1).toNat : Int) := rfl
  rw [e] at h
  have hb : (BitVec.ofInt 64 p ||| BitVec.ofInt 64 1) = 1#64 := by
    have hx := (BitVec.ofInt 64 p ||| BitVec.ofInt 64 1).isLt
    apply BitVec.eq_of_toNat_eq
    have hw : IntKind.i64.wrap ((BitVec.ofInt 64 p ||| BitVec.ofInt 64 1).toNat : Int) = 1 := h
    rw [IntKind.wrap_i64] at hw
    simp only [BitVec.toNat_ofNat]
    omega
  have hp1 : (BitVec.ofInt 64 p) = 0#64 ∨ (BitVec.ofInt 64 p) = 1#64 := by
    generalize BitVec.ofInt 64 p = x at hb
    have hk : ∀ i, 1 ≤ i → i < 64 → x.getLsbD i = false := fun i hi hl => by
      have := congrArg (fun y => y.getLsbD i) hb
      simp only [BitVec.getLsbD_or] at this
      have h1 : (1#64).getLsbD i = false := by
        rw [BitVec.getLsbD_one]; simp; omega
      rw [h1] at this
      cases hx : x.getLsbD i <;> simp_all
    by_cases hz : x.getLsbD 0
    · right
      apply BitVec.eq_of_getLsbD_eq
      intro i hi
      rcases Nat.eq_zero_or_pos i with rfl | h
      · rw [hz]; rfl
      · rw [hk i h hi, BitVec.getLsbD_one]; simp; omega
    · left
      apply BitVec.eq_of_getLsbD_eq
      intro i hi
      rcases Nat.eq_zero_or_pos i with rfl | h
      · simp only [Bool.not_eq_true] at hz; rw [hz]; simp
      · rw [hk i h hi]; simp
  have hv : (BitVec.ofInt 64 p).toInt = p := by
    exact BitVec.toInt_ofInt_eq_self (by decide) (by simpa using hp.1) (by have := hp.2; simp; omega)
  rcases hp1 with h | h
  · rw [h] at hv; exact h0 (by rw [← hv]; decide)
  · rw [h] at hv; exact h1 (by rw [← hv]; decide)
/-- sched.Take. -/
def takR (k : Core) (m : Ram) (p : Int) : Core × Int × Int :=
  bif !(p == 0 || p == 1) then (.zero, 0, 2)
  else bif k.fr (p == 1) == NP then (.zero, 0, 6)
  else bif !validB m (k.fr (p == 1)) then (.zero, 0, 4)
  else bif k.fr (p == 1) == k.bk (p == 1) then ((k.setF (p == 1) NP).setB (p == 1) NP, k.fr (p == 1), 0)
  else (k.setF (p == 1) (m.word (IntKind.i32.wrap (k.fr (p == 1) + -8))), k.fr (p == 1), 0)
noncomputable abbrev ctTk : CT := [(f_sched_none, in_sched_none ctSz), (f_sched_valid, eValid), (f_sched_word, in_sched_word ctWo)]
theorem ctTk_ok : CTok Try.prog ctTk := ⟨in_sched_none_ok ctSz_ok, con_ok cal_sched_valid _, in_sched_word_ok ctWo_ok, trivial⟩
theorem Take_c (k : Core) (m : Ram) (p : Int) (hok : k.ok) (hp : -9223372036854775808 ≤ p ∧ p ≤ 9223372036854775807) : Con Try.prog f_sched_Take [.agg k.sv, .s (.loc 0 0), .s (.int .i64 p)] [mBox m.l.length, mOwn m.l]
    (.ret (.tup [.agg (takR k m p).1.sv, .s (.int .i32 (takR k m p).2.1), .s (.int .i64 (takR k m p).2.2)]) [mBox m.l.length, mOwn m.l]) := by
  intro K hK
  have h0 := m.lo
  have hc : p = 0 ∨ p = 1 ∨ (p ≠ 0 ∧ p ≠ 1) := by omega
  rcases hc with rfl | rfl | ⟨hp0, hp1⟩
  · have hfr : k.fr ((0 : Int) == 1) = k.f0 := rfl
    have hbk : k.bk ((0 : Int) == 1) = k.b0 := rfl
    refine enter fn_sched_Take rfl nt_sched_Take rfl rfl (fun φ w0 β0 F => ?_)
    refine c_run tt_ok ctTk_ok k_sched_Take [] 60 (by kernel_rfl) ?_
    refine ⟨fun h => ?_, fun _ => ⟨fun h => absurd h (by decide), fun _ => ⟨fun h1 => ?_, fun h1 => ?_⟩⟩⟩
    · exfalso; have := of_decide_eq_true h; omega
    · rw [show takR k m 0 = (.zero, 0, 6) by unfold takR; rw [hfr, show (k.f0 == NP) = true from h1]; rfl] at hK
      exact fin_k tt_ok (rs := rs_sched_Take) rfl rfl hK [0, 1] rfl rfl rfl rfl rfl rfl
    · refine ⟨m, ⟨rfl, rfl, rfl, rfl, hok.f0⟩, fun h2 => ?_, fun h2 => ⟨fun h3 => ?_, fun h3 => ?_⟩⟩
      · have hV : validB m k.f0 = false := by simpa using h2
        rw [show takR k m 0 = (.zero, 0, 4) by unfold takR; rw [hfr, show (k.f0 == NP) = false from h1, hV]; rfl] at hK
        exact fin_k tt_ok (rs := rs_sched_Take) rfl rfl hK [0, 1] rfl rfl rfl rfl rfl rfl
      · have hV : validB m k.f0 = true := by simpa using h2
        rw [show takR k m 0 = ((k.setF false NP).setB false NP, k.f0, 0) by unfold takR; rw [hfr, hbk, show (k.f0 == NP) = false from h1, hV, show (k.f0 == k.b0) = true from h3]; rfl] at hK
        exact fin_k tt_ok (rs := rs_sched_Take) rfl rfl hK [0, 1] rfl rfl rfl rfl rfl rfl
      · have hV : validB m k.f0 = true := by simpa using h2
        rw [show takR k m 0 = (k.setF false (m.word (IntKind.i32.wrap (k.f0 + -8))), k.f0, 0) by unfold takR; rw [hfr, hbk, show (k.f0 == NP) = false from h1, hV, show (k.f0 == k.b0) = false from h3]; rfl] at hK
        refine ⟨m, ⟨rfl, rfl, rfl, rfl, I32_wrap _⟩, ?_⟩
        exact fin_k tt_ok (rs := rs_sched_Take) rfl rfl hK [0, 1] rfl rfl rfl rfl rfl rfl
  · have hfr : k.fr ((1 : Int) == 1) = k.f1 := rfl
    have hbk : k.bk ((1 : Int) == 1) = k.b1 := rfl
    refine enter fn_sched_Take rfl nt_sched_Take rfl rfl (fun φ w0 β0 F => ?_)
    refine c_run tt_ok ctTk_ok k_sched_Take [] 60 (by kernel_rfl) ?_
    refine ⟨fun h => ?_, fun _ => ⟨fun h => absurd h (by decide), fun _ => ⟨fun h1 => ?_, fun h1 => ?_⟩⟩⟩
    · exfalso; have := of_decide_eq_true h; omega
    · rw [show takR k m 1 = (.zero, 0, 6) by unfold takR; rw [hfr, show (k.f1 == NP) = true from h1]; rfl] at hK
      exact fin_k tt_ok (rs := rs_sched_Take) rfl rfl hK [0, 1] rfl rfl rfl rfl rfl rfl
    · refine ⟨m, ⟨rfl, rfl, rfl, rfl, hok.f1⟩, fun h2 => ?_, fun h2 => ⟨fun h3 => ?_, fun h3 => ?_⟩⟩
      · have hV : validB m k.f1 = false := by simpa using h2
        rw [show takR k m 1 = (.zero, 0, 4) by unfold takR; rw [hfr, show (k.f1 == NP) = false from h1, hV]; rfl] at hK
        exact fin_k tt_ok (rs := rs_sched_Take) rfl rfl hK [0, 1] rfl rfl rfl rfl rfl rfl
      · have hV : validB m k.f1 = true := by simpa using h2
        rw [show takR k m 1 = ((k.setF true NP).setB true NP, k.f1, 0) by unfold takR; rw [hfr, hbk, show (k.f1 == NP) = false from h1, hV, show (k.f1 == k.b1) = true from h3]; rfl] at hK
        exact fin_k tt_ok (rs := rs_sched_Take) rfl rfl hK [0, 1] rfl rfl rfl rfl rfl rfl
      · have hV : validB m k.f1 = true := by simpa using h2
        rw [show takR k m 1 = (k.setF true (m.word (IntKind.i32.wrap (k.f1 + -8))), k.f1, 0) by unfold takR; rw [hfr, hbk, show (k.f1 == NP) = false from h1, hV, show (k.f1 == k.b1) = false from h3]; rfl] at hK
        refine ⟨m, ⟨rfl, rfl, rfl, rfl, I32_wrap _⟩, ?_⟩
        exact fin_k tt_ok (rs := rs_sched_Take) rfl rfl hK [0, 1] rfl rfl rfl rfl rfl rfl
  · have hpp : (bits .or .i64 p 1 != 1) = true := by simpa using or1 hp hp0 hp1
    refine enter fn_sched_Take rfl nt_sched_Take rfl rfl (fun φ w0 β0 F => ?_)
    refine c_run tt_ok ctTk_ok k_sched_Take [] 60 (by kernel_rfl) ?_
    refine ⟨fun h => ?_, fun _ => ⟨fun _ => ?_, fun h => absurd (hpp.symm.trans h) (by decide)⟩⟩
    · exfalso; have := of_decide_eq_true h; omega
    · rw [show takR k m p = (.zero, 0, 2) by unfold takR; rw [show (p == 0 || p == 1) = false by simp [hp0, hp1]]; rfl] at hK
      exact fin_k tt_ok (rs := rs_sched_Take) rfl rfl hK [0, 1] rfl rfl rfl rfl rfl rfl
noncomputable abbrev eTake : Ent := .st (conS (P := Try.prog) (f := f_sched_Take) fun cargs σ0 => match cargs, σ0 with
  | [.agg cs, .s (.loc 0 0), .s (.int .i64 d)], [.blk 33 [.sl 1 0 n n'], .own 5 1 c xs] => withCore cs fun k hk => some ⟨.ex (Ram × Core × Int × Int) fun p => .ask (n = p.1.l.length ∧ n' = p.1.l.length ∧ c = p.1.l.length ∧ xs = bytesI p.1.l ∧ (k.ok ∧ -9223372036854775808 ≤ d ∧ d ≤ 9223372036854775807) ∧ takR k p.1 d = p.2)
      (.ret (.tup [.agg p.2.1.sv, .s (.int .i32 p.2.2.1), .s (.int .i64 p.2.2.2)]) [mBox p.1.l.length, mOwn p.1.l]), fun K h => by
      obtain ⟨⟨m, k', e', m'⟩, ⟨e1, e2, e3, e4, h1, h2⟩, h⟩ := h
      dsimp only at e1 e2 e3 e4 h2 h
      subst e1; subst e2; subst e3; subst e4; subst hk
      refine Take_c k m d h1.1 h1.2 K ?_
      rw [h2]; exact h⟩
  | _, _ => none)
theorem takR_ok {k : Core} {m : Ram} {p : Int} (h : k.ok) : (takR k m p).1.ok ∧ I32 (takR k m p).2.1 := by
  have hz : Core.zero.ok := by constructor <;> first | exact ⟨by decide, by decide⟩
  have hi : I32 0 := by unfold I32; omega
  have hnp : I32 NP := by unfold I32 NP; omega
  have hf : I32 (k.fr (p == 1)) := by unfold Core.fr; cases (p == 1); exact h.f0; exact h.f1
  have sF : ∀ {k : Core} (_ : k.ok) (o : Bool) {w : Int} (_ : I32 w), (k.setF o w).ok := fun {k} h o {w} hw => by
    unfold Core.setF; cases o <;> (constructor <;> first | exact hw | exact h.a | exact h.b | exact h.c | exact h.iptr | exact h.wptr | exact h.pri | exact h.f0 | exact h.f1 | exact h.b0 | exact h.b1 | exact h.t0 | exact h.t1 | exact h.k0 | exact h.k1 | exact h.ticks | exact h.slice | exact h.sa | exact h.sb | exact h.sc | exact h.siptr | exact h.swptr | exact h.sslice)
  have sB : ∀ {k : Core} (_ : k.ok) (o : Bool) {w : Int} (_ : I32 w), (k.setB o w).ok := fun {k} h o {w} hw => by
    unfold Core.setB; cases o <;> (constructor <;> first | exact hw | exact h.a | exact h.b | exact h.c | exact h.iptr | exact h.wptr | exact h.pri | exact h.f0 | exact h.f1 | exact h.b0 | exact h.b1 | exact h.t0 | exact h.t1 | exact h.k0 | exact h.k1 | exact h.ticks | exact h.slice | exact h.sa | exact h.sb | exact h.sc | exact h.siptr | exact h.swptr | exact h.sslice)
  unfold takR
  cases (!(p == 0 || p == 1))
  · cases (k.fr (p == 1) == NP)
    · cases (!validB m (k.fr (p == 1)))
      · cases (k.fr (p == 1) == k.bk (p == 1))
        · exact ⟨sF h _ (word_I32 _ _), hf⟩
        · exact ⟨sB (sF h _ hnp) _ hnp, hf⟩
      · exact ⟨hz, hi⟩
    · exact ⟨hz, hi⟩
  · exact ⟨hz, hi⟩
/-- sched.start. -/
def staR (k : Core) (m : Ram) (p : Int) : Core × Int :=
  bif (takR k m p).2.2 != 0 then (.zero, (takR k m p).2.2)
  else ({ (takR k m p).1.nobody with wptr := (takR k m p).2.1, iptr := m.word (IntKind.i32.wrap ((takR k m p).2.1 + -4)), pri := p, busy := true }, 0)
noncomputable abbrev ctSt : CT := [(f_sched_Take, eTake), (f_sched_nobody, in_sched_nobody []), (f_sched_word, in_sched_word ctWo)]
theorem ctSt_ok : CTok Try.prog ctSt := ⟨con_ok cal_sched_Take _, in_sched_nobody_ok (ct := []) trivial, in_sched_word_ok ctWo_ok, trivial⟩
theorem start_c (k : Core) (m : Ram) (p : Int) (hok : k.ok) (hp : -9223372036854775808 ≤ p ∧ p ≤ 9223372036854775807) : Con Try.prog f_sched_start [.agg k.sv, .s (.loc 0 0), .s (.int .i64 p)] [mBox m.l.length, mOwn m.l]
    (.ret (.tup [.agg (staR k m p).1.sv, .s (.int .i64 (staR k m p).2)]) [mBox m.l.length, mOwn m.l]) := by
  intro K hK
  obtain ⟨⟨k', w, e⟩, hR⟩ : ∃ r, takR k m p = r := ⟨_, rfl⟩
  have hok' := takR_ok (m := m) (p := p) hok
  rw [hR] at hok'
  unfold staR at hK
  rw [hR] at hK
  refine enter fn_sched_start rfl nt_sched_start rfl rfl (fun φ w0 β0 F => ?_)
  refine c_run tt_ok ctSt_ok k_sched_start [] 60 (by kernel_rfl) ?_
  refine ⟨(m, k', w, e), ⟨rfl, rfl, rfl, rfl, ⟨hok, hp⟩, hR⟩, ?_⟩
  refine ⟨fun h => ?_, fun h => ?_⟩
  · rw [show (e != 0) = true from h] at hK
    exact fin_k tt_ok (rs := rs_sched_start) rfl rfl hK [0, 1] rfl rfl rfl rfl rfl rfl
  · rw [show (e != 0) = false from h] at hK
    refine ⟨m, ⟨rfl, rfl, rfl, rfl, I32_wrap _⟩, ?_⟩
    exact fin_k tt_ok (rs := rs_sched_start) rfl rfl hK [0, 1] rfl rfl rfl rfl rfl rfl
end Go.Proofs

namespace Go.Proofs
open Go Go.Sx
set_option maxRecDepth 10000
def priB (p : Int) : Bool := p == 0 || p == 1
theorem or1B {p : Int} (hp : -9223372036854775808 ≤ p ∧ p ≤ 9223372036854775807) : (bits .or .i64 p 1 != 1) = !priB p := by
  have hc : p = 0 ∨ p = 1 ∨ (p ≠ 0 ∧ p ≠ 1) := by omega
  rcases hc with rfl | rfl | ⟨h0, h1⟩
  · decide
  · decide
  · have := or1 hp h0 h1
    rw [show priB p = false by simp [priB, h0, h1]]
    simpa using this
theorem told_bl {b c : Bool} {β : Nat → Bd} (h : b = c) : (FV.t (.s (.bool c))).den β = (FV.t (.s (.bool b))).den β := by rw [h]
def Core.sav (k : Core) : Core := { k.nobody with sis := true, sa := k.a, sb := k.b, sc := k.c, siptr := k.iptr, swptr := k.wptr, serr := k.err, sslice := k.slice }
def Core.res (k : Core) : Core := { k with a := k.sa, b := k.sb, c := k.sc, iptr := k.siptr, wptr := k.swptr, err := k.serr, slice := k.sslice, pri := 1, busy := true, sis := false, sa := 0, sb := 0, sc := 0, siptr := 0, swptr := 0, serr := false, sslice := 0 }
def Core.high (k : Core) : Bool := !(k.f0 == NP)
/-- sched.Settle. -/
def setR (k : Core) (m : Ram) : Core × Int :=
  bif !priB k.pri then (.zero, 2)
  else bif k.halted then (k, 0)
  else bif bif bif k.busy then k.pri == 1 else false then k.high else false then staR k.sav m 0
  else bif k.busy then (k, 0)
  else bif k.high then staR k m 0
  else bif k.sis then (k.res, 0)
  else bif !(k.f1 == NP) then staR k m 1
  else (k, 0)
noncomputable abbrev eStart : Ent := .st (conS (P := Try.prog) (f := f_sched_start) fun cargs σ0 => match cargs, σ0 with
  | [.agg cs, .s (.loc 0 0), .s (.int .i64 d)], [.blk 33 [.sl 1 0 n n'], .own 5 1 c xs] => withCore cs fun k hk => some ⟨.ex (Ram × Core × Int) fun p => .ask (n = p.1.l.length ∧ n' = p.1.l.length ∧ c = p.1.l.length ∧ xs = bytesI p.1.l ∧ (k.ok ∧ -9223372036854775808 ≤ d ∧ d ≤ 9223372036854775807) ∧ staR k p.1 d = p.2)
      (.ret (.tup [.agg p.2.1.sv, .s (.int .i64 p.2.2)]) [mBox p.1.l.length, mOwn p.1.l]), fun K h => by
      obtain ⟨⟨m, k', e'⟩, ⟨e1, e2, e3, e4, h1, h2⟩, h⟩ := h
      dsimp only at e1 e2 e3 e4 h2 h
      subst e1; subst e2; subst e3; subst e4; subst hk
      refine start_c k m d h1.1 h1.2 K ?_
      rw [h2]; exact h⟩
  | _, _ => none)
noncomputable abbrev ctSe : CT := [(f_sched_none, in_sched_none ctSz), (f_sched_start, eStart), (f_sched_nobody, in_sched_nobody [])]
theorem ctSe_ok : CTok Try.prog ctSe := ⟨in_sched_none_ok ctSz_ok, con_ok cal_sched_start _, in_sched_nobody_ok (ct := []) trivial, trivial⟩
theorem sav_ok {k : Core} (h : k.ok) : k.sav.ok := by
  have h0 : I32 0 := by unfold I32; omega
  constructor <;> first | exact h0 | exact h.a | exact h.b | exact h.c | exact h.iptr | exact h.wptr | exact ⟨by show (-9223372036854775808 : Int) ≤ 0; decide, by show (0 : Int) ≤ 9223372036854775807; decide⟩ | exact h.f0 | exact h.f1 | exact h.b0 | exact h.b1 | exact h.t0 | exact h.t1 | exact h.k0 | exact h.k1 | exact h.ticks | exact h.slice | exact h.sa | exact h.sb | exact h.sc | exact h.siptr | exact h.swptr | exact h.sslice
theorem Settle_c (k : Core) (m : Ram) (k' : Core) (e' : Int) (hok : k.ok) (hx : setR k m = (k', e')) : Con Try.prog f_sched_Settle [.agg k.sv, .s (.loc 0 0)] [mBox m.l.length, mOwn m.l]
    (.ret (.tup [.agg k'.sv, .s (.int .i64 e')]) [mBox m.l.length, mOwn m.l]) := by
  intro K hK
  have h0 := m.lo
  refine enter fn_sched_Settle rfl nt_sched_Settle rfl rfl (fun φ w0 β0 F => ?_)
  refine c_run tt_ok ctSe_ok k_sched_Settle [100014] 90 (by kernel_rfl) ?_
  refine ⟨fun h => ?_, fun _ => ⟨.t (.s (.bool (!priB k.pri))), fun β => told_bl (or1B hok.pri), rfl, fun h1 => ?_, fun h1 => ?_⟩⟩
  · exfalso; have := of_decide_eq_true h; omega
  · rw [show setR k m = (.zero, 2) by unfold setR; rw [h1]; rfl] at hx
    cases hx
    exact fin_k tt_ok (rs := rs_sched_Settle) rfl rfl hK [0, 1] rfl rfl rfl rfl rfl rfl
  · refine ⟨fun h2 => ?_, fun h2 => ⟨fun h3 => ⟨fun h => absurd h (by decide), fun _ => ⟨fun h4 => ?_, fun h4 => ?_⟩⟩, fun h3 => ⟨fun h4 => ?_, fun h4 => ⟨fun h5 => ?_, fun h5 => ⟨fun h6 => ?_, fun h6 => ⟨fun h7 => ?_, fun h7 => ?_⟩⟩⟩⟩⟩⟩
    · rw [show setR k m = (k, 0) by unfold setR; rw [h1, h2]; rfl] at hx
      cases hx
      exact fin_k tt_ok (rs := rs_sched_Settle) rfl rfl hK [0, 1] rfl rfl rfl rfl rfl rfl
    · rw [show setR k m = staR k.sav m 0 by unfold setR; rw [h1, h2, show (bif bif k.busy then k.pri == 1 else false then k.high else false) = true from h3]; rfl] at hx
      refine ⟨(m, k', e'), ⟨rfl, rfl, rfl, rfl, ⟨sav_ok hok, by decide⟩, hx⟩, ?_⟩
      exact fin_k tt_ok (rs := rs_sched_Settle) rfl rfl hK [0, 1] rfl rfl rfl rfl rfl rfl
    · exfalso
      rw [h4] at h3
      cases hb : (bif k.busy then k.pri == 1 else false) <;> simp [hb] at h3
    all_goals have h3' : (bif bif k.busy then k.pri == 1 else false then k.high else false) = false := h3
    · rw [show setR k m = (k, 0) by unfold setR; rw [h1, h2, h3', h4]; rfl] at hx
      cases hx
      exact fin_k tt_ok (rs := rs_sched_Settle) rfl rfl hK [0, 1] rfl rfl rfl rfl rfl rfl
    · rw [show setR k m = staR k m 0 by unfold setR; rw [h1, h2, h3', h4, show k.high = true from h5]; rfl] at hx
      refine ⟨(m, k', e'), ⟨rfl, rfl, rfl, rfl, ⟨hok, by decide⟩, hx⟩, ?_⟩
      exact fin_k tt_ok (rs := rs_sched_Settle) rfl rfl hK [0, 1] rfl rfl rfl rfl rfl rfl
    · rw [show setR k m = (k.res, 0) by unfold setR; rw [h1, h2, h3', h4, show k.high = false from h5, h6]; rfl] at hx
      cases hx
      refine c_waysH tt_ok ctSe_ok k_sched_Settle [4] rfl rfl rfl ?_
      repeat' (first | exact trivial | exact ⟨rfl, trivial⟩ | (refine And.intro ?_ ?_))
      refine e_run tt_ok ctSe_ok k_sched_Settle [] 60 (by kernel_rfl) ?_
      exact fin_k tt_ok (rs := rs_sched_Settle) rfl rfl hK [0, 1] rfl rfl rfl rfl rfl rfl
    · rw [show setR k m = staR k m 1 by unfold setR; rw [h1, h2, h3', h4, show k.high = false from h5, h6, show (!(k.f1 == NP)) = true from h7]; rfl] at hx
      refine ⟨(m, k', e'), ⟨rfl, rfl, rfl, rfl, ⟨hok, by decide⟩, hx⟩, ?_⟩
      exact fin_k tt_ok (rs := rs_sched_Settle) rfl rfl hK [0, 1] rfl rfl rfl rfl rfl rfl
    · rw [show setR k m = (k, 0) by unfold setR; rw [h1, h2, h3', h4, show k.high = false from h5, h6, show (!(k.f1 == NP)) = false from h7]; rfl] at hx
      cases hx
      exact fin_k tt_ok (rs := rs_sched_Settle) rfl rfl hK [0, 1] rfl rfl rfl rfl rfl rfl
end Go.Proofs

namespace Go.Proofs
open Go Go.Sx
set_option maxRecDepth 10000
noncomputable abbrev eWaitT : Ent := .st (conS (P := Try.prog) (f := f_sched_Wait) fun cargs σ0 => match cargs, σ0 with
  | [.agg cs, .s (.loc 0 0)], [.blk 33 [.sl 1 0 n n'], .own 5 1 c xs] => withCore cs fun k hk => some ⟨.ex (Ram × Core × Int × Ram) fun p => .ask (n = p.1.l.length ∧ n' = p.1.l.length ∧ c = p.1.l.length ∧ xs = bytesI p.1.l ∧ I32 k.wptr ∧ (waitK k p.1, waitE k p.1, waitM k p.1) = p.2)
      (.ret (.tup [.agg p.2.1.sv, .s (.int .i64 p.2.2.1)]) [mBox p.2.2.2.l.length, mOwn p.2.2.2.l]), fun K h => by
      obtain ⟨⟨m, k', e', m'⟩, ⟨e1, e2, e3, e4, h1, h2⟩, h⟩ := h
      dsimp only at e1 e2 e3 e4 h2 h
      subst e1; subst e2; subst e3; subst e4; subst hk
      cases h2
      exact Wait_c k m h1 K h⟩
  | _, _ => none)
def Core.clear (k : Core) : Core := { k with a := 0, b := 0, c := 0 }
theorem clear_ok {k : Core} (h : k.ok) : k.clear.ok := by
  have h0 : I32 0 := by unfold I32; omega
  constructor <;> first | exact h0 | exact h.iptr | exact h.wptr | exact h.pri | exact h.f0 | exact h.f1 | exact h.b0 | exact h.b1 | exact h.t0 | exact h.t1 | exact h.k0 | exact h.k1 | exact h.ticks | exact h.slice | exact h.sa | exact h.sb | exact h.sc | exact h.siptr | exact h.swptr | exact h.sslice
theorem nobody_ok {k : Core} (h : k.ok) : k.nobody.ok := by
  have h0 : I32 0 := by unfold I32; omega
  constructor <;> first | exact h0 | exact h.f0 | exact h.f1 | exact h.b0 | exact h.b1 | exact h.t0 | exact h.t1 | exact h.k0 | exact h.k1 | exact h.ticks | exact h.slice | exact h.sa | exact h.sb | exact h.sc | exact h.siptr | exact h.swptr | exact h.sslice | exact ⟨by show (-9223372036854775808 : Int) ≤ 0; decide, by show (0 : Int) ≤ 9223372036854775807; decide⟩
/-- sched.stoperr. -/
def steR (k : Core) (m : Ram) : Core × Int × Ram := bif k.err then (waitK k m, waitE k m, waitM k m) else (k, 0, m)
noncomputable abbrev ctSp : CT := [(f_sched_Wait, eWaitT)]
theorem ctSp_ok : CTok Try.prog ctSp := ⟨con_ok cal_sched_Wait _, trivial⟩
/-- sched.ldpri. -/
def ldpK (k : Core) : Core := { k with a := IntKind.i32.wrap k.pri, b := k.a, c := k.b }
/-- sched.endp. -/
def enpR (k : Core) (m : Ram) : Core × Int × Ram :=
  bif bif !validB m k.a then true else m.err (IntKind.i32.wrap (k.a + 4)) != 0 then (.zero, 4, m)
  else bif m.word (IntKind.i32.wrap (k.a + 4)) != 1 then (k.nobody, 0, m.set (IntKind.i32.wrap (k.a + 4)) (IntKind.i32.wrap (m.word (IntKind.i32.wrap (k.a + 4)) - 1)))
  else ({ k.clear with wptr := k.a, iptr := (m.set (IntKind.i32.wrap (k.a + 4)) (IntKind.i32.wrap (m.word (IntKind.i32.wrap (k.a + 4)) - 1))).word (IntKind.i32.wrap (k.a + 0)) }, 0,
    m.set (IntKind.i32.wrap (k.a + 4)) (IntKind.i32.wrap (m.word (IntKind.i32.wrap (k.a + 4)) - 1)))
theorem waitK_ok {k : Core} {m : Ram} (h : k.ok) : (waitK k m).ok := by
  unfold waitK
  cases (waitE k m == 0)
  · rw [kSel_f]; constructor <;> first | exact ⟨by decide, by decide⟩
  · rw [kSel_t]; exact nobody_ok h
theorem I32_or (a b : Int) : I32 (bits .or .i32 a b) := I32_wrap _
/-- sched.Slice. -/
def sliR (k : Core) (m : Ram) : Core × Int × Ram :=
  bif !priB k.pri then (.zero, 2, m)
  else bif (bif bif bif !k.busy then true else k.pri == 0 then true else decide (k.slice < 64) then true else k.f1 == NP) then (k, 0, m)
  else bif (bif !validB m k.wptr then true else !validB m k.b1) then (.zero, 4, m)
  else appR (waitK k m) (waitM k m) (bits .or .i32 k.wptr 1)
noncomputable abbrev ctSl : CT := [(f_sched_none, in_sched_none ctSz), (f_sched_valid, eValid), (f_sched_Wait, eWaitT), (f_sched_Append, eAppend)]
theorem ctSl_ok : CTok Try.prog ctSl := ⟨in_sched_none_ok ctSz_ok, con_ok cal_sched_valid _, con_ok cal_sched_Wait _, con_ok cal_sched_Append _, trivial⟩
/-- sched.startp. -/
def stpR (k : Core) (m : Ram) : Core × Int × Ram :=
  bif bif !validB m k.a then true else bif !(k.fr (k.pri == 1) == NP) then !validB m (k.bk (k.pri == 1)) else false then (.zero, 4, m)
  else appR k.clear (m.set (IntKind.i32.wrap (k.a + -4)) (IntKind.i32.wrap (k.iptr + k.b))) (bits .or .i32 k.a k.pri)
end Go.Proofs

namespace Go.Proofs
open Go Go.Sx
set_option maxRecDepth 10000
def qV (l : List Int) : List Value := l.map fun x => .int .i32 x
theorem qV_app (a b : List Int) : qV (a ++ b) = qV a ++ qV b := List.map_append
theorem qV_len (a : List Int) : (qV a).length = a.length := List.length_map ..
theorem qV_one (l : List Int) : ∀ u ∈ qV l, u.oneCell' = true := fun u hu => by
  obtain ⟨x, _, rfl⟩ := List.mem_map.1 hu; rfl
/-- What sched.Queue finds. -/
def queL : Nat → Ram → Int → Int → List Int → List Int × Int
  | 0, _, _, _, _ => ([], 4)
  | f + 1, m, b, w, L => bif bif !validB m w then true else L.length == 1024 then ([], 4) else bif w == b then (L ++ [w], 0) else queL f m b (m.word (IntKind.i32.wrap (w + -8))) (L ++ [w])
@[irreducible] def queN : Nat := 1025
theorem queN_eq : queN = 1025 := by unfold queN; rfl
def queR (k : Core) (m : Ram) (p : Int) : List Int × Int :=
  bif !priB p then ([], 2) else bif k.fr (p == 1) == NP then ([], 0) else queL queN m (k.bk (p == 1)) (k.fr (p == 1)) []
noncomputable abbrev ctQu : CT := [(f_sched_none, in_sched_none ctSz), (f_sched_valid, eValid), (f_sched_word, in_sched_word ctWo), (f_sched_chain, in_sched_chain [])]
theorem ctQu_ok : CTok Try.prog ctQu := ⟨in_sched_none_ok ctSz_ok, con_ok cal_sched_valid _, in_sched_word_ok ctWo_ok, in_sched_chain_ok (ct := []) trivial, trivial⟩
set_option maxHeartbeats 1000000 in
theorem Queue_c (k : Core) (m : Ram) (p : Int) (hok' : k.ok) (hp : -9223372036854775808 ≤ p ∧ p ≤ 9223372036854775807) : Con Try.prog f_sched_Queue [.agg k.sv, .s (.loc 0 0), .s (.int .i64 p)] [mBox m.l.length, mOwn m.l]
    (.all Nat (fun c => (queR k m p).1.length ≤ c ∧ (c = 0 → (queR k m p).1 = [])) fun c => .ret (.tup [.s (.sl 2 0 (queR k m p).1.length c), .s (.int .i64 (queR k m p).2)]) [mBox m.l.length, mOwn m.l, .own 21 1 c (qV (queR k m p).1)]) := by
  intro K hK
  have h0 := m.lo
  have hc : p = 0 ∨ p = 1 ∨ (p ≠ 0 ∧ p ≠ 1) := by omega
  rcases hc with rfl | rfl | ⟨hp0, hp1⟩
  · have hR : queR k m 0 = bif k.f0 == NP then ([], 0) else queL queN m k.b0 k.f0 [] := by
      unfold queR
      rw [show (!priB 0) = false from rfl, cond_false, show k.fr ((0 : Int) == 1) = k.f0 from rfl, show k.bk ((0 : Int) == 1) = k.b0 from rfl]
    refine enterM fn_sched_Queue rfl nt_sched_Queue rfl rfl (fun φ w0 β0 F => ?_)
    refine c_run tt_ok ctQu_ok k_sched_Queue [] 90 (by kernel_rfl) ?_
    refine ⟨fun h => ?_, fun _ => ⟨fun h => absurd h (by decide), fun _ => ?_⟩⟩
    · exfalso; have := of_decide_eq_true h; omega
    show WpC _ _ _ _ _
    refine c_nil 5 21 1 rfl ?_
    refine WpC.into (fr' := [(6, .t (.s (.loc 3 0)), none), (7, .t (.s (.loc 4 0)), none), (8, .t (.s (.loc 5 0)), none), (19, .t (.clo (.func 91) [] [.loc 6 0, .loc 8 0, .loc 7 0]), none)])
      (σ' := [mBox m.l.length, mOwn m.l, .blk 26 k.sv, .blk 35 [.raw (.slice none 0 0)], .blk 36 [.int .i64 0], .blk 35 [.sl 9 0 0 0], .blk 26 k.sv, .blk 34 [.loc 0 0], .blk 3 [.int .i64 0], .own 21 1 0 []])
      (into [0, 1, 2, 3, 4, 5, 6, 7, 8, 9] ⟨⟨_, rfl, rfl⟩, ⟨_, rfl, rfl⟩, ⟨_, rfl, rfl⟩, ⟨_, rfl, rfl⟩, trivial⟩ ⟨_, rfl, rfl⟩ rfl rfl rfl rfl) ?_
    refine c_range 9 rfl rfl rfl rfl rfl rfl cal_sched_chain_1 fn_sched_chain_1 rfl nt_sched_chain_1 rfl rfl rfl (fun G hok => ?_)
    refine c_run tt_ok ctQu_ok k_sched_chain_1 [] 60 (by kernel_rfl) ?_
    refine ⟨fun h1 => ?_, fun h1 => ?_⟩
    · rw [show (k.f0 == NP) = true from h1, cond_true] at hR
      rw [hR] at hK
      show WpE _ _ _ _ _
      refine it_end hok (.inr rfl) rfl (by simp []) rfl ?_
      refine e_run tt_ok ctQu_ok k_sched_Queue [] 60 (by kernel_rfl) ?_
      show WpE _ _ _ _ _
      refine finM hok rfl (.inr (.inl rfl)) ?_
      exact fin_k tt_ok (rs := rs_sched_Queue) rfl rfl (hK 0 ⟨Nat.le_refl _, fun _ => rfl⟩) [0, 1, 9] rfl rfl rfl rfl rfl rfl
    · rw [show (k.f0 == NP) = false from h1, cond_false] at hR
      show WpC _ _ _ _ _
      refine c_loop (α := Int × List Int × Nat × Nat) (fun x => I32 x.1 ∧ x.2.1.length ≤ x.2.2.1 ∧ (x.2.2.2 + x.2.1.length = 1025 ∧ x.2.1.length ≤ 1024) ∧ queL queN m k.b0 k.f0 [] = queL x.2.2.2 m k.b0 x.1 x.2.1) (fun x => x.2.2.2)
        (fun x => [(0, .t (.s (.raw (.func (.yield G.l) #[] #[]))), none), (1, .t (.s (.loc 6 0)), none), (2, .t (.s (.loc 8 0)), none), (3, .t (.s (.loc 7 0)), none), (5, .t (.s (.int .i32 x.1)), none)])
        (fun x => [mBox m.l.length, mOwn m.l, .blk 26 k.sv, .blk 35 [.raw (.slice none 0 0)], .blk 36 [.int .i64 0], .blk 35 [.sl 9 0 x.2.1.length x.2.2.1], .blk 26 k.sv, .blk 34 [.loc 0 0], .blk 3 [.int .i64 0], .own 21 1 x.2.2.1 (qV x.2.1)]) (k.f0, [], 0, queN) ?_ ?_ ?_
      · exact ⟨hok'.f0, Nat.le_refl _, ⟨queN_eq, Nat.zero_le _⟩, rfl⟩
      · exact into [0, 1, 2, 3, 4, 5, 6, 7, 8, 9] ⟨⟨_, rfl, rfl⟩, ⟨_, rfl, rfl⟩, ⟨_, rfl, rfl⟩, ⟨_, rfl, rfl⟩, ⟨_, rfl, rfl⟩, trivial⟩ ⟨_, rfl, rfl⟩ rfl rfl rfl rfl
      · rintro ⟨w, L, c, f⟩ ⟨hw, hLc, ⟨hf, hL4⟩, hlaw⟩
        simp only at hw hLc hf hL4 hlaw
        obtain ⟨f, rfl⟩ : ∃ f', f = f' + 1 := ⟨f - 1, by omega⟩
        dsimp only
        refine c_run' tt_ok ctQu_ok k_sched_chain_1 [25] 60 (by kernel_rfl) (by kernel_rfl) ?_
        refine ⟨m, ⟨rfl, rfl, rfl, rfl, hw⟩, ?_⟩
        show WpL _ _ _ _ _ _
        refine l_yield hok rfl rfl rfl trivial rfl rfl rfl rfl rfl (fun D => ?_)
        refine c_run tt_ok ctQu_ok k_sched_Queue [] 60 (by kernel_rfl) ?_
        show WpE _ _ _ _ _
        refine rnd_begin hok D ?_
        refine c_run tt_ok ctQu_ok k_sched_Queue [] 60 (by kernel_rfl) ?_
        have e1024 : ((L.length : Int) == 1024) = (L.length == 1024) := by
          cases h : (L.length == 1024) <;> simp at h ⊢ <;> omega
        refine ⟨fun h2 => ?_, fun h2 => ?_⟩
        · have hc : (bif !validB m w then true else L.length == 1024) = true := by rw [← e1024]; exact h2
          rw [queL, hc, cond_true] at hlaw
          rw [hlaw] at hR
          rw [hR] at hK
          show WpE _ _ _ _ _
          refine rnd_end hok D rfl rfl (.inr (.inl ⟨rfl, rfl⟩)) ?_
          refine l_run tt_ok ctQu_ok k_sched_chain_1 [] 60 (by kernel_rfl) (by kernel_rfl) ?_
          refine ⟨fun _ => ?_, fun h => absurd h (by simp)⟩
          show WpE _ _ _ _ _
          refine it_end hok (.inr rfl) rfl (by simp [stOf]) rfl ?_
          refine e_run tt_ok ctQu_ok k_sched_Queue [] 60 (by kernel_rfl) ?_
          show WpE _ _ _ _ _
          refine finM hok rfl (.inr (.inl rfl)) ?_
          refine WpE.into (nilCell 3 21 1 rfl) ?_
          exact fin_k tt_ok (rs := rs_sched_Queue) rfl rfl (hK 0 ⟨Nat.le_refl _, fun _ => rfl⟩) [0, 1, 10] rfl rfl rfl rfl rfl rfl
        · have hc : (bif !validB m w then true else L.length == 1024) = false := by rw [← e1024]; exact h2
          rw [queL, hc, cond_false] at hlaw
          refine ⟨⟨rfl, by rw [qV_len, Nat.mul_one], Nat.le_refl _, fun u hu => ?_, by simp only [maxLen]; omega, by omega⟩, fun c1 hc1 hc2 => ?_⟩
          · rw [List.mem_singleton.1 (List.mem_of_mem_drop (List.mem_of_mem_take hu))]; rfl
          show WpE _ _ _ _ _
          refine rnd_end hok D rfl rfl (.inl ⟨rfl, rfl⟩) ?_
          refine l_run tt_ok ctQu_ok k_sched_chain_1 [] 60 (by kernel_rfl) (by kernel_rfl) ?_
          have hV : validB m w = true := by cases hv : validB m w <;> rw [hv] at hc <;> simp at hc ⊢
          have hlen : L.length ≠ 1024 := by rw [hV] at hc; simpa using hc
          refine ⟨fun h3 => ?_, fun h3 => ?_⟩
          · have hB : (w == k.b0) = true := by rw [hV] at h3; simpa using h3
            rw [hB, cond_true] at hlaw
            rw [hlaw] at hR
            rw [hR] at hK
            show WpE _ _ _ _ _
            refine it_end hok (.inr rfl) rfl (by simp [stOf]) rfl ?_
            refine e_run tt_ok ctQu_ok k_sched_Queue [] 60 (by kernel_rfl) ?_
            show WpE _ _ _ _ _
            refine finM hok rfl (.inr (.inl rfl)) ?_
            refine fin_k tt_ok (rs := rs_sched_Queue) rfl rfl (hK c1 ⟨by simpa using hc1, fun h => by omega⟩) [0, 1, 11] ?_ ?_ rfl rfl rfl rfl
            · rw [show (L ++ [w], (0 : Int)).1.length = L.length + 1 by simp]; rfl
            · dsimp only; rw [qV_app]; rfl
          · have hB : (w == k.b0) = false := by rw [hV] at h3; simpa using h3
            rw [hB, cond_false] at hlaw
            refine ⟨m, ⟨rfl, rfl, rfl, rfl, I32_wrap _⟩, ?_⟩
            refine e_again (m.word (IntKind.i32.wrap (w + -8)), L ++ [w], c1, f) ⟨word_I32 _ _, by simpa using hc1, ⟨by simp only [List.length_append, List.length_singleton]; omega, by simp only [List.length_append, List.length_singleton]; omega⟩, hlaw⟩ (Nat.lt_succ_self f) (into [0, 1, 2, 3, 4, 5, 6, 7, 8, 11] ⟨⟨_, rfl, rfl⟩, ⟨_, rfl, rfl⟩, ⟨_, rfl, rfl⟩, ⟨_, rfl, rfl⟩, ⟨_, rfl, rfl⟩, trivial⟩ ⟨_, rfl, ?_⟩ rfl rfl rfl rfl)
            dsimp only
            rw [qV_app, show L.length + 1 = (L ++ [w]).length by simp]
            rfl
  · have hR : queR k m 1 = bif k.f1 == NP then ([], 0) else queL queN m k.b1 k.f1 [] := by
      unfold queR
      rw [show (!priB 1) = false from rfl, cond_false, show k.fr ((1 : Int) == 1) = k.f1 from rfl, show k.bk ((1 : Int) == 1) = k.b1 from rfl]
    refine enterM fn_sched_Queue rfl nt_sched_Queue rfl rfl (fun φ w0 β0 F => ?_)
    refine c_run tt_ok ctQu_ok k_sched_Queue [] 90 (by kernel_rfl) ?_
    refine ⟨fun h => ?_, fun _ => ⟨fun h => absurd h (by decide), fun _ => ?_⟩⟩
    · exfalso; have := of_decide_eq_true h; omega
    show WpC _ _ _ _ _
    refine c_nil 5 21 1 rfl ?_
    refine WpC.into (fr' := [(6, .t (.s (.loc 3 0)), none), (7, .t (.s (.loc 4 0)), none), (8, .t (.s (.loc 5 0)), none), (19, .t (.clo (.func 91) [] [.loc 6 0, .loc 8 0, .loc 7 0]), none)])
      (σ' := [mBox m.l.length, mOwn m.l, .blk 26 k.sv, .blk 35 [.raw (.slice none 0 0)], .blk 36 [.int .i64 0], .blk 35 [.sl 9 0 0 0], .blk 26 k.sv, .blk 34 [.loc 0 0], .blk 3 [.int .i64 1], .own 21 1 0 []])
      (into [0, 1, 2, 3, 4, 5, 6, 7, 8, 9] ⟨⟨_, rfl, rfl⟩, ⟨_, rfl, rfl⟩, ⟨_, rfl, rfl⟩, ⟨_, rfl, rfl⟩, trivial⟩ ⟨_, rfl, rfl⟩ rfl rfl rfl rfl) ?_
    refine c_range 9 rfl rfl rfl rfl rfl rfl cal_sched_chain_1 fn_sched_chain_1 rfl nt_sched_chain_1 rfl rfl rfl (fun G hok => ?_)
    refine c_run tt_ok ctQu_ok k_sched_chain_1 [] 60 (by kernel_rfl) ?_
    refine ⟨fun h1 => ?_, fun h1 => ?_⟩
    · rw [show (k.f1 == NP) = true from h1, cond_true] at hR
      rw [hR] at hK
      show WpE _ _ _ _ _
      refine it_end hok (.inr rfl) rfl (by simp []) rfl ?_
      refine e_run tt_ok ctQu_ok k_sched_Queue [] 60 (by kernel_rfl) ?_
      show WpE _ _ _ _ _
      refine finM hok rfl (.inr (.inl rfl)) ?_
      exact fin_k tt_ok (rs := rs_sched_Queue) rfl rfl (hK 0 ⟨Nat.le_refl _, fun _ => rfl⟩) [0, 1, 9] rfl rfl rfl rfl rfl rfl
    · rw [show (k.f1 == NP) = false from h1, cond_false] at hR
      show WpC _ _ _ _ _
      refine c_loop (α := Int × List Int × Nat × Nat) (fun x => I32 x.1 ∧ x.2.1.length ≤ x.2.2.1 ∧ (x.2.2.2 + x.2.1.length = 1025 ∧ x.2.1.length ≤ 1024) ∧ queL queN m k.b1 k.f1 [] = queL x.2.2.2 m k.b1 x.1 x.2.1) (fun x => x.2.2.2)
        (fun x => [(0, .t (.s (.raw (.func (.yield G.l) #[] #[]))), none), (1, .t (.s (.loc 6 0)), none), (2, .t (.s (.loc 8 0)), none), (3, .t (.s (.loc 7 0)), none), (5, .t (.s (.int .i32 x.1)), none)])
        (fun x => [mBox m.l.length, mOwn m.l, .blk 26 k.sv, .blk 35 [.raw (.slice none 0 0)], .blk 36 [.int .i64 0], .blk 35 [.sl 9 0 x.2.1.length x.2.2.1], .blk 26 k.sv, .blk 34 [.loc 0 0], .blk 3 [.int .i64 1], .own 21 1 x.2.2.1 (qV x.2.1)]) (k.f1, [], 0, queN) ?_ ?_ ?_
      · exact ⟨hok'.f1, Nat.le_refl _, ⟨queN_eq, Nat.zero_le _⟩, rfl⟩
      · exact into [0, 1, 2, 3, 4, 5, 6, 7, 8, 9] ⟨⟨_, rfl, rfl⟩, ⟨_, rfl, rfl⟩, ⟨_, rfl, rfl⟩, ⟨_, rfl, rfl⟩, ⟨_, rfl, rfl⟩, trivial⟩ ⟨_, rfl, rfl⟩ rfl rfl rfl rfl
      · rintro ⟨w, L, c, f⟩ ⟨hw, hLc, ⟨hf, hL4⟩, hlaw⟩
        simp only at hw hLc hf hL4 hlaw
        obtain ⟨f, rfl⟩ : ∃ f', f = f' + 1 := ⟨f - 1, by omega⟩
        dsimp only
        refine c_run' tt_ok ctQu_ok k_sched_chain_1 [25] 60 (by kernel_rfl) (by kernel_rfl) ?_
        refine ⟨m, ⟨rfl, rfl, rfl, rfl, hw⟩, ?_⟩
        show WpL _ _ _ _ _ _
        refine l_yield hok rfl rfl rfl trivial rfl rfl rfl rfl rfl (fun D => ?_)
        refine c_run tt_ok ctQu_ok k_sched_Queue [] 60 (by kernel_rfl) ?_
        show WpE _ _ _ _ _
        refine rnd_begin hok D ?_
        refine c_run tt_ok ctQu_ok k_sched_Queue [] 60 (by kernel_rfl) ?_
        have e1024 : ((L.length : Int) == 1024) = (L.length == 1024) := by
          cases h : (L.length == 1024) <;> simp at h ⊢ <;> omega
        refine ⟨fun h2 => ?_, fun h2 => ?_⟩
        · have hc : (bif !validB m w then true else L.length == 1024) = true := by rw [← e1024]; exact h2
          rw [queL, hc, cond_true] at hlaw
          rw [hlaw] at hR
          rw [hR] at hK
          show WpE _ _ _ _ _
          refine rnd_end hok D rfl rfl (.inr (.inl ⟨rfl, rfl⟩)) ?_
          refine l_run tt_ok ctQu_ok k_sched_chain_1 [] 60 (by kernel_rfl) (by kernel_rfl) ?_
          refine ⟨fun _ => ?_, fun h => absurd h (by simp)⟩
          show WpE _ _ _ _ _
          refine it_end hok (.inr rfl) rfl (by simp [stOf]) rfl ?_
          refine e_run tt_ok ctQu_ok k_sched_Queue [] 60 (by kernel_rfl) ?_
          show WpE _ _ _ _ _
          refine finM hok rfl (.inr (.inl rfl)) ?_
          refine WpE.into (nilCell 3 21 1 rfl) ?_
          exact fin_k tt_ok (rs := rs_sched_Queue) rfl rfl (hK 0 ⟨Nat.le_refl _, fun _ => rfl⟩) [0, 1, 10] rfl rfl rfl rfl rfl rfl
        · have hc : (bif !validB m w then true else L.length == 1024) = false := by rw [← e1024]; exact h2
          rw [queL, hc, cond_false] at hlaw
          refine ⟨⟨rfl, by rw [qV_len, Nat.mul_one], Nat.le_refl _, fun u hu => ?_, by simp only [maxLen]; omega, by omega⟩, fun c1 hc1 hc2 => ?_⟩
          · rw [List.mem_singleton.1 (List.mem_of_mem_drop (List.mem_of_mem_take hu))]; rfl
          show WpE _ _ _ _ _
          refine rnd_end hok D rfl rfl (.inl ⟨rfl, rfl⟩) ?_
          refine l_run tt_ok ctQu_ok k_sched_chain_1 [] 60 (by kernel_rfl) (by kernel_rfl) ?_
          have hV : validB m w = true := by cases hv : validB m w <;> rw [hv] at hc <;> simp at hc ⊢
          have hlen : L.length ≠ 1024 := by rw [hV] at hc; simpa using hc
          refine ⟨fun h3 => ?_, fun h3 => ?_⟩
          · have hB : (w == k.b1) = true := by rw [hV] at h3; simpa using h3
            rw [hB, cond_true] at hlaw
            rw [hlaw] at hR
            rw [hR] at hK
            show WpE _ _ _ _ _
            refine it_end hok (.inr rfl) rfl (by simp [stOf]) rfl ?_
            refine e_run tt_ok ctQu_ok k_sched_Queue [] 60 (by kernel_rfl) ?_
            show WpE _ _ _ _ _
            refine finM hok rfl (.inr (.inl rfl)) ?_
            refine fin_k tt_ok (rs := rs_sched_Queue) rfl rfl (hK c1 ⟨by simpa using hc1, fun h => by omega⟩) [0, 1, 11] ?_ ?_ rfl rfl rfl rfl
            · rw [show (L ++ [w], (0 : Int)).1.length = L.length + 1 by simp]; rfl
            · dsimp only; rw [qV_app]; rfl
          · have hB : (w == k.b1) = false := by rw [hV] at h3; simpa using h3
            rw [hB, cond_false] at hlaw
            refine ⟨m, ⟨rfl, rfl, rfl, rfl, I32_wrap _⟩, ?_⟩
            refine e_again (m.word (IntKind.i32.wrap (w + -8)), L ++ [w], c1, f) ⟨word_I32 _ _, by simpa using hc1, ⟨by simp only [List.length_append, List.length_singleton]; omega, by simp only [List.length_append, List.length_singleton]; omega⟩, hlaw⟩ (Nat.lt_succ_self f) (into [0, 1, 2, 3, 4, 5, 6, 7, 8, 11] ⟨⟨_, rfl, rfl⟩, ⟨_, rfl, rfl⟩, ⟨_, rfl, rfl⟩, ⟨_, rfl, rfl⟩, ⟨_, rfl, rfl⟩, trivial⟩ ⟨_, rfl, ?_⟩ rfl rfl rfl rfl)
            dsimp only
            rw [qV_app, show L.length + 1 = (L ++ [w]).length by simp]
            rfl
  · have hpp : (!priB p) = true := by unfold priB; simp [hp0, hp1]
    have hR : queR k m p = ([], 2) := by unfold queR; rw [hpp, cond_true]
    rw [hR] at hK
    refine enterM fn_sched_Queue rfl nt_sched_Queue rfl rfl (fun φ w0 β0 F => ?_)
    refine c_run tt_ok ctQu_ok k_sched_Queue [100015] 90 (by kernel_rfl) ?_
    refine ⟨fun h => ?_, fun _ => ⟨.t (.s (.bool (!priB p))), fun β => told_bl (or1B hp), rfl, fun h1 => ?_, fun h1 => absurd (hpp.symm.trans h1) (by decide)⟩⟩
    · exfalso; have := of_decide_eq_true h; omega
    · refine finM0 (.inr rfl) rfl ?_
      refine WpE.into (nilCell 3 21 1 rfl) ?_
      exact fin_k tt_ok (rs := rs_sched_Queue) rfl rfl (hK 0 ⟨Nat.le_refl _, fun _ => rfl⟩) [0, 1, 5] rfl rfl rfl rfl rfl rfl
end Go.Proofs

namespace Go.Proofs
open Go Go.Sx
set_option maxRecDepth 10000
noncomputable abbrev eSettle : Ent := .st (conS (P := Try.prog) (f := f_sched_Settle) fun cargs σ0 => match cargs, σ0 with
  | [.agg cs, .s (.loc 0 0)], [.blk 33 [.sl 1 0 n n'], .own 5 1 c xs] => withCore cs fun k hk => some ⟨.ex (Ram × Core × Int) fun p => .ask (n = p.1.l.length ∧ n' = p.1.l.length ∧ c = p.1.l.length ∧ xs = bytesI p.1.l ∧ k.ok ∧ setR k p.1 = p.2)
      (.ret (.tup [.agg p.2.1.sv, .s (.int .i64 p.2.2)]) [mBox p.1.l.length, mOwn p.1.l]), fun K h => by
      obtain ⟨⟨m, k', e'⟩, ⟨e1, e2, e3, e4, h1, h2⟩, h⟩ := h
      dsimp only at e1 e2 e3 e4 h2 h
      subst e1; subst e2; subst e3; subst e4; subst hk
      exact Settle_c k m k' e' h1 h2 K h⟩
  | _, _ => none)
noncomputable abbrev eQueue : Ent := .st (conS (P := Try.prog) (f := f_sched_Queue) fun cargs σ0 => match cargs, σ0 with
  | [.agg cs, .s (.loc 0 0), .s (.int .i64 d)], [.blk 33 [.sl 1 0 n n'], .own 5 1 c xs] => withCore cs fun k hk => some ⟨.ex (Ram × List Int × Int) fun p => .ask (n = p.1.l.length ∧ n' = p.1.l.length ∧ c = p.1.l.length ∧ xs = bytesI p.1.l ∧ (k.ok ∧ -9223372036854775808 ≤ d ∧ d ≤ 9223372036854775807) ∧ queR k p.1 d = p.2)
      (.all Nat (fun c => p.2.1.length ≤ c ∧ (c = 0 → p.2.1 = [])) fun c => .ret (.tup [.s (.sl 2 0 p.2.1.length c), .s (.int .i64 p.2.2)]) [mBox p.1.l.length, mOwn p.1.l, .own 21 1 c (qV p.2.1)]), fun K h => by
      obtain ⟨⟨m, L, e'⟩, ⟨e1, e2, e3, e4, h1, h2⟩, h⟩ := h
      dsimp only at e1 e2 e3 e4 h2 h
      subst e1; subst e2; subst e3; subst e4; subst hk
      refine Queue_c k m d h1.1 h1.2 K ?_
      rw [h2]; exact h⟩
  | _, _ => none)
def K0 : Core := ⟨0, 0, 0, 0, 0, 0, false, false, false, false, NP, NP, NP, NP, NP, NP, 0, 0, 0, 0, false, 0, 0, 0, 0, 0, false, 0⟩
theorem Reset_c : Con Try.prog f_r29_Reset [] [] (.ret (.t (.agg K0.sv)) []) := by
  intro K hK
  refine enter fn_r29_Reset rfl nt_r29_Reset rfl rfl (fun φ w0 β0 F => ?_)
  refine c_run tt_ok (ct := []) trivial k_r29_Reset [] 60 (by kernel_rfl) ?_
  refine c_unroll 2 ?_
  refine c_run' tt_ok (ct := []) trivial k_r29_Reset [] 90 (by kernel_rfl) (by kernel_rfl) ?_
  refine ⟨fun _ => ⟨fun _ => ⟨fun h => absurd h (by decide), fun _ => ?_⟩, fun h => absurd h (by decide)⟩, fun h => absurd h (by decide)⟩
  exact fin_k tt_ok (rs := rs_r29_Reset) rfl rfl hK [] rfl rfl rfl rfl rfl rfl
noncomputable abbrev eReset : Ent := .st (conS (P := Try.prog) (f := f_r29_Reset) fun cargs σ0 => match cargs, σ0 with
  | [], [] => some ⟨.ret (.t (.agg K0.sv)) [], Reset_c⟩
  | _, _ => none)
def Ram.z : Ram := ⟨List.replicate 1024 0, by simp, by simp, by simp, by intro b hb; rw [List.mem_replicate] at hb; omega⟩
def Ram.zz : Ram := ⟨List.replicate 2048 0, by simp, by simp, by simp, by intro b hb; rw [List.mem_replicate] at hb; omega⟩
noncomputable abbrev eNew : Ent := .st (conS (P := Try.prog) (f := f_mem_New) fun cargs σ0 => match cargs, σ0 with
  | [.s (.int .i64 n)], [] => some ⟨.br (mayM n) (.ret (.tup [.s (.loc 0 0), .s (.int .i64 0)]) [mBox n.toNat, .own 5 1 n.toNat (bytesI (List.replicate n.toNat 0))]) (.ret (.tup [.s (.raw (.pointer none)), .s (.int .i64 2)]) []), fun K h => New_c n K h⟩
  | _, _ => none)
theorem qV_at {L : List Int} {i : Nat} {x : Int} (h : L[i]? = some x) : (qV L)[i]? = some (.int .i32 x) := by unfold qV; rw [List.getElem?_map, h]; rfl
theorem same_c (A B : List Int) (ca cb : Nat) (hn : A.length ≤ 1000000000) : Con Try.prog f_r29_Same [.s (.sl 0 0 A.length ca), .s (.sl 1 0 B.length cb)] [.view (qV A), .view (qV B)] (.ret (.t (.s (.bool (decide (A = B))))) [.view (qV A), .view (qV B)]) := by
  intro K hK
  refine enter fn_r29_Same rfl nt_r29_Same rfl rfl (fun φ w0 β0 F => ?_)
  refine c_run tt_ok (ct := []) trivial k_r29_Same [] 60 (by kernel_rfl) ?_
  refine ⟨fun h => ?_, fun h => ?_⟩
  · have hne : A.length ≠ B.length := by intro e; rw [e] at h; simp at h
    rw [show decide (A = B) = false by simp; intro e; exact hne (by rw [e])] at hK
    exact fin_k tt_ok (rs := rs_r29_Same) rfl rfl hK [0, 1] rfl rfl rfl rfl rfl rfl
  · have hln : A.length = B.length := by
      have : ((A.length : Int) != (B.length : Int)) = false := h
      have h2 := by simpa using this
      exact Int.ofNat.inj h2
    show WpC _ _ _ _ _
    refine c_loop (α := Nat) (fun i => i ≤ A.length ∧ A.take i = B.take i) (fun i => A.length - i)
      (fun i => [(0, .t (.s (.sl 0 0 A.length ca)), none), (1, .t (.s (.sl 1 0 B.length cb)), none), (5, .t (.s (.int .i64 (i : Int))), none)])
      (fun _ => [.view (qV A), .view (qV B)]) 0 ⟨Nat.zero_le _, rfl⟩ ?_ ?_
    · exact into [0, 1] ⟨⟨_, rfl, rfl⟩, ⟨_, rfl, rfl⟩, ⟨_, rfl, rfl⟩, trivial⟩ ⟨_, rfl, rfl⟩ rfl rfl rfl rfl
    · intro i ⟨hi, he⟩
      dsimp only
      refine c_run' tt_ok (ct := []) trivial k_r29_Same [] 60 (by kernel_rfl) (by kernel_rfl) ?_
      refine ⟨fun h1 => ?_, fun h1 => ?_⟩
      · have hlt : i < A.length := by have := of_decide_eq_true h1; omega
        have hlt2 : i < B.length := by omega
        obtain ⟨p, hp⟩ : ∃ p, A[i]? = some p := ⟨_, List.getElem?_eq_getElem hlt⟩
        obtain ⟨q, hq⟩ : ∃ q, B[i]? = some q := ⟨_, List.getElem?_eq_getElem hlt2⟩
        refine ⟨i, ⟨rfl, hlt, by rw [qV_len]; simp only [Nat.zero_add, Nat.mul_one]; omega⟩, .int .i32 p, rfl, by show (qV A)[0 + i * 1]? = _; rw [Nat.zero_add, Nat.mul_one]; exact qV_at hp, ?_⟩
        refine ⟨i, ⟨rfl, hlt2, by rw [qV_len]; simp only [Nat.zero_add, Nat.mul_one]; omega⟩, .int .i32 q, rfl, by show (qV B)[0 + i * 1]? = _; rw [Nat.zero_add, Nat.mul_one]; exact qV_at hq, ?_⟩
        refine ⟨fun h2 => ?_, fun h2 => ?_⟩
        · have hne : ¬ A = B := by
            intro e
            rw [e, hq] at hp
            cases hp
            simp at h2
          rw [show decide (A = B) = false by simpa using hne] at hK
          exact fin_k tt_ok (rs := rs_r29_Same) rfl rfl hK [0, 1] rfl rfl rfl rfl rfl rfl
        · have heq : p = q := by simpa using h2
          subst heq
          refine e_again (i + 1) ⟨by omega, ?_⟩ (by omega) (into [0, 1] ⟨⟨_, rfl, rfl⟩, ⟨_, rfl, rfl⟩, ⟨_, rfl, fvi (wrapSucc (by omega))⟩, trivial⟩ ⟨_, rfl, rfl⟩ rfl rfl rfl rfl)
          rw [List.take_add_one, List.take_add_one, he, hp, hq]
      · have hge : i = A.length := by have := of_decide_eq_false h1; omega
        subst hge
        rw [List.take_length, hln, List.take_length] at he
        rw [he, show decide (B = B) = true by simp] at hK
        rw [he]
        exact fin_k tt_ok (rs := rs_r29_Same) rfl rfl hK [0, 1] rfl rfl rfl rfl rfl rfl
def rdSame : List RA → (Prop → Prop) → (FV → Prop) → Option Prop
  | [.row xs n _, .row ys n' _], ask, k => some (∃ p : List Int × List Int, ask (xs = qV p.1 ∧ n = p.1.length ∧ ys = qV p.2 ∧ n' = p.2.length ∧ p.1.length ≤ 1000000000) ∧ k (.t (.s (.bool (decide (p.1 = p.2))))))
  | _, _, _ => none
theorem re_same : REok Try.prog f_r29_Same rdSame := ⟨cal_r29_Same, fun args ask k R h hR => by
  unfold rdSame at h
  split at h
  · cases h
    obtain ⟨⟨A, B⟩, h1, h2⟩ := hR
    refine ⟨_, h2, rfl, fun hp => ?_⟩
    obtain ⟨e1, e2, e3, e4, h3⟩ := hp _ h1
    dsimp only at e1 e2 e3 e4 h3
    subst e1; subst e2; subst e3; subst e4
    exact ⟨fun β φ w hs => (((same_c A B _ _ h3) (fun v σ => v = .t (.s (.bool (decide (A = B)))) ∧ σ = [.view (qV A), .view (qV B)]) ⟨rfl, rfl⟩).h β φ w hs).mono fun _ _ ⟨x, β', ⟨q1, q2⟩, hr⟩ => by
      obtain ⟨v, σ⟩ := x
      dsimp only at q1 q2
      subst q1; subst q2
      exact ⟨(), β', trivial, hr⟩⟩
  · cases h⟩
end Go.Proofs

namespace Go.Proofs
open Go Go.Sx
set_option maxRecDepth 10000
noncomputable abbrev ctRTk : CT := [(f_r29_Valid, eRValid), (f_r29_Word, eRWord9)]
theorem ctRTk_ok : CTok Try.prog ctRTk := ⟨con_ok cal_r29_Valid _, con_ok cal_r29_Word _, trivial⟩
theorem priB_not {p : Int} : (bif p != 0 then p != 1 else false) = !priB p := by
  unfold priB
  by_cases h0 : p = 0
  · subst h0; rfl
  · by_cases h1 : p = 1
    · subst h1; rfl
    · simp [bne]
theorem or_i32 {w p : Int} (hw : w % 4 = 0) (hp : p = 0 ∨ p = 1) : bits .or .i32 w p = IntKind.i32.wrap (w + p) := by
  have e : bits .or .i32 w p = IntKind.i32.wrap ((BitVec.ofInt 32 w ||| BitVec.ofInt 32 p).toNat : Int) := rfl
  have hx : (BitVec.ofInt 32 w).toNat % 2 = 0 := by
    rw [BitVec.toNat_ofInt]; have : ((2 ^ 32 : Nat) : Int) = 4294967296 := rfl
    rw [this]; omega
  have hand : BitVec.ofInt 32 w &&& BitVec.ofInt 32 p = 0#32 := by
    rcases hp with rfl | rfl
    · simp
    · apply BitVec.eq_of_toNat_eq
      rw [BitVec.toNat_and, show (BitVec.ofInt 32 1).toNat = 1 from rfl, Nat.and_one_is_mod, hx]; rfl
  rw [e, ← BitVec.add_eq_or_of_and_eq_zero _ _ hand, BitVec.toNat_add, BitVec.toNat_ofInt, BitVec.toNat_ofInt, IntKind.wrap_i32, IntKind.wrap_i32]
  have : ((2 ^ 32 : Nat) : Int) = 4294967296 := rfl
  rw [this]
  omega
theorem validB_len {m m' : Ram} (h : m'.l.length = m.l.length) (w : Int) : validB m' w = validB m w := by unfold validB; rw [h]
theorem valid_four {m : Ram} {w : Int} (h : validB m w = true) : w % 4 = 0 := by
  unfold validB at h
  cases h4 : (w % 4 == 0) <;> rw [h4] at h
  · simp at h
  · simpa using h4
theorem wsp_add {w p : Int} (hI : I32 w) (hw : w % 4 = 0) (hp : p = 0 ∨ p = 1) : IntKind.i32.wrap (w + p) = w + p ∧ wsp (w + p) = w ∧ odd (w + p) = (p == 1) := by
  unfold I32 at hI
  rcases hp with rfl | rfl
  · refine ⟨by rw [IntKind.wrap_i32]; omega, by unfold wsp; omega, ?_⟩
    unfold odd; simp; omega
  · refine ⟨by rw [IntKind.wrap_i32]; omega, by unfold wsp; omega, ?_⟩
    unfold odd; simp; omega
noncomputable abbrev ctRSl : CT := [(f_r29_Wait, eRWait), (f_r29_Append, eRAppend)]
theorem ctRSl_ok : CTok Try.prog ctRSl := ⟨con_ok cal_r29_Wait _, con_ok cal_r29_Append _, trivial⟩
end Go.Proofs
