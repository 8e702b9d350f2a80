/- sched.Take, start. -/
import Derived.Test.YtckbmpoomamenaaWalkB
import Derived.Test.YtckbmpoomamenaaSxD

namespace Go.Proofs
open Go Go.Sx
set_option maxRecDepth 10000
noncomputable abbrev ctWo : CT := [(f_mem_Mem_Word, eWordT)]
theorem ctWo_ok : CTok Try.prog ctWo := ⟨con_ok cal_mem_Mem_Word _, trivial⟩
theorem or1 {p : Int} (hp : -9223372036854775808 ≤ p ∧ p ≤ 9223372036854775807) (h0 : p ≠ 0) (h1 : p ≠ 1) : bits .or .i64 p 1 ≠ 1 := by
  intro h
  have e : bits .or .i64 p 1 = IntKind.i64.wrap ((BitVec.ofInt 64 p ||| BitVec.ofInt 64 1).toNat : Int) := rfl
  rw [e] at h
  have hb : (BitVec.ofInt 64 p ||| BitVec.ofInt 64 1) = 1#64 := by
    have hx := (BitVec.ofInt 64 p ||| BitVec.ofInt 64 1).isLt
    apply BitVec.eq_of_toNat_eq
    have hw : IntKind.i64.wrap ((BitVec.ofInt 64 p ||| BitVec.ofInt 64 1).toNat : Int) = 1 := h
    rw [IntKind.wrap_i64] at hw
    simp only [BitVec.toNat_ofNat]
    omega
  have hp1 : (BitVec.ofInt 64 p) = 0#64 ∨ (BitVec.ofInt 64 p) = 1#64 := by
    generalize BitVec.ofInt 64 p = x at hb
    have hk : ∀ i, 1 ≤ i → i < 64 → x.getLsbD i = false := fun i hi hl => by
      have := congrArg (fun y => y.getLsbD i) hb
      simp only [BitVec.getLsbD_or] at this
      have h1 : (1#64).getLsbD i = false := by
        rw [BitVec.getLsbD_one]; simp; omega
      rw [h1] at this
      cases hx : x.getLsbD i <;> simp_all
    by_cases hz : x.getLsbD 0
    · right
      apply BitVec.eq_of_getLsbD_eq
      intro i hi
      rcases Nat.eq_zero_or_pos i with rfl | h
      · rw [hz]; rfl
      · rw [hk i h hi, BitVec.getLsbD_one]; simp; omega
    · left
      apply BitVec.eq_of_getLsbD_eq
      intro i hi
      rcases Nat.eq_zero_or_pos i with rfl | h
      · simp only [Bool.not_eq_true] at hz; rw [hz]; simp
      · rw [hk i h hi]; simp
  have hv : (BitVec.ofInt 64 p).toInt = p := by
    exact BitVec.toInt_ofInt_eq_self (by decide) (by simpa using hp.1) (by have := hp.2; simp; omega)
  rcases hp1 with h | h
  · rw [h] at hv; exact h0 (by rw [← hv]; decide)
  · rw [h] at hv; exact h1 (by rw [← hv]; decide)
/-- sched.Take. -/
def takR (k : Core) (m : Ram) (p : Int) : Core × Int × Int :=
  bif !(p == 0 || p == 1) then (.zero, 0, 2)
  else bif k.fr (p == 1) == NP then (.zero, 0, 6)
  else bif !validB m (k.fr (p == 1)) then (.zero, 0, 4)
  else bif k.fr (p == 1) == k.bk (p == 1) then ((k.setF (p == 1) NP).setB (p == 1) NP, k.fr (p == 1), 0)
  else (k.setF (p == 1) (m.word (IntKind.i32.wrap (k.fr (p == 1) + -8))), k.fr (p == 1), 0)
noncomputable abbrev ctTk : CT := [(f_sched_none, in_sched_none ctSz), (f_sched_valid, eValid), (f_sched_word, in_sched_word ctWo)]
theorem ctTk_ok : CTok Try.prog ctTk := ⟨in_sched_none_ok ctSz_ok, con_ok cal_sched_valid _, in_sched_word_ok ctWo_ok, trivial⟩
theorem Take_c (k : Core) (m : Ram) (p : Int) (hok : k.ok) (hp : -9223372036854775808 ≤ p ∧ p ≤ 9223372036854775807) : Con Try.prog f_sched_Take [.agg k.sv, .s (.loc 0 0), .s (.int .i64 p)] [mBox m.l.length, mOwn m.l]
    (.ret (.tup [.agg (takR k m p).1.sv, .s (.int .i32 (takR k m p).2.1), .s (.int .i64 (takR k m p).2.2)]) [mBox m.l.length, mOwn m.l]) := by
  intro K hK
  have h0 := m.lo
  have hc : p = 0 ∨ p = 1 ∨ (p ≠ 0 ∧ p ≠ 1) := by omega
  rcases hc with rfl | rfl | ⟨hp0, hp1⟩
  · have hfr : k.fr ((0 : Int) == 1) = k.f0 := rfl
    have hbk : k.bk ((0 : Int) == 1) = k.b0 := rfl
    refine enter fn_sched_Take rfl nt_sched_Take rfl rfl (fun φ w0 β0 F => ?_)
    refine c_run tt_ok ctTk_ok k_sched_Take [] 60 (by kernel_rfl) ?_
    refine ⟨fun h => ?_, fun _ => ⟨fun h => absurd h (by decide), fun _ => ⟨fun h1 => ?_, fun h1 => ?_⟩⟩⟩
    · exfalso; have := of_decide_eq_true h; omega
    · rw [show takR k m 0 = (.zero, 0, 6) by unfold takR; rw [hfr, show (k.f0 == NP) = true from h1]; rfl] at hK
      exact fin_k tt_ok (rs := rs_sched_Take) rfl rfl hK [0, 1] rfl rfl rfl rfl rfl rfl
    · refine ⟨m, ⟨rfl, rfl, rfl, rfl, hok.f0⟩, fun h2 => ?_, fun h2 => ⟨fun h3 => ?_, fun h3 => ?_⟩⟩
      · have hV : validB m k.f0 = false := by simpa using h2
        rw [show takR k m 0 = (.zero, 0, 4) by unfold takR; rw [hfr, show (k.f0 == NP) = false from h1, hV]; rfl] at hK
        exact fin_k tt_ok (rs := rs_sched_Take) rfl rfl hK [0, 1] rfl rfl rfl rfl rfl rfl
      · have hV : validB m k.f0 = true := by simpa using h2
        rw [show takR k m 0 = ((k.setF false NP).setB false NP, k.f0, 0) by unfold takR; rw [hfr, hbk, show (k.f0 == NP) = false from h1, hV, show (k.f0 == k.b0) = true from h3]; rfl] at hK
        exact fin_k tt_ok (rs := rs_sched_Take) rfl rfl hK [0, 1] rfl rfl rfl rfl rfl rfl
      · have hV : validB m k.f0 = true := by simpa using h2
        rw [show takR k m 0 = (k.setF false (m.word (IntKind.i32.wrap (k.f0 + -8))), k.f0, 0) by unfold takR; rw [hfr, hbk, show (k.f0 == NP) = false from h1, hV, show (k.f0 == k.b0) = false from h3]; rfl] at hK
        refine ⟨m, ⟨rfl, rfl, rfl, rfl, I32_wrap _⟩, ?_⟩
        exact fin_k tt_ok (rs := rs_sched_Take) rfl rfl hK [0, 1] rfl rfl rfl rfl rfl rfl
  · have hfr : k.fr ((1 : Int) == 1) = k.f1 := rfl
    have hbk : k.bk ((1 : Int) == 1) = k.b1 := rfl
    refine enter fn_sched_Take rfl nt_sched_Take rfl rfl (fun φ w0 β0 F => ?_)
    refine c_run tt_ok ctTk_ok k_sched_Take [] 60 (by kernel_rfl) ?_
    refine ⟨fun h => ?_, fun _ => ⟨fun h => absurd h (by decide), fun _ => ⟨fun h1 => ?_, fun h1 => ?_⟩⟩⟩
    · exfalso; have := of_decide_eq_true h; omega
    · rw [show takR k m 1 = (.zero, 0, 6) by unfold takR; rw [hfr, show (k.f1 == NP) = true from h1]; rfl] at hK
      exact fin_k tt_ok (rs := rs_sched_Take) rfl rfl hK [0, 1] rfl rfl rfl rfl rfl rfl
    · refine ⟨m, ⟨rfl, rfl, rfl, rfl, hok.f1⟩, fun h2 => ?_, fun h2 => ⟨fun h3 => ?_, fun h3 => ?_⟩⟩
      · have hV : validB m k.f1 = false := by simpa using h2
        rw [show takR k m 1 = (.zero, 0, 4) by unfold takR; rw [hfr, show (k.f1 == NP) = false from h1, hV]; rfl] at hK
        exact fin_k tt_ok (rs := rs_sched_Take) rfl rfl hK [0, 1] rfl rfl rfl rfl rfl rfl
      · have hV : validB m k.f1 = true := by simpa using h2
        rw [show takR k m 1 = ((k.setF true NP).setB true NP, k.f1, 0) by unfold takR; rw [hfr, hbk, show (k.f1 == NP) = false from h1, hV, show (k.f1 == k.b1) = true from h3]; rfl] at hK
        exact fin_k tt_ok (rs := rs_sched_Take) rfl rfl hK [0, 1] rfl rfl rfl rfl rfl rfl
      · have hV : validB m k.f1 = true := by simpa using h2
        rw [show takR k m 1 = (k.setF true (m.word (IntKind.i32.wrap (k.f1 + -8))), k.f1, 0) by unfold takR; rw [hfr, hbk, show (k.f1 == NP) = false from h1, hV, show (k.f1 == k.b1) = false from h3]; rfl] at hK
        refine ⟨m, ⟨rfl, rfl, rfl, rfl, I32_wrap _⟩, ?_⟩
        exact fin_k tt_ok (rs := rs_sched_Take) rfl rfl hK [0, 1] rfl rfl rfl rfl rfl rfl
  · have hpp : (bits .or .i64 p 1 != 1) = true := by simpa using or1 hp hp0 hp1
    refine enter fn_sched_Take rfl nt_sched_Take rfl rfl (fun φ w0 β0 F => ?_)
    refine c_run tt_ok ctTk_ok k_sched_Take [] 60 (by kernel_rfl) ?_
    refine ⟨fun h => ?_, fun _ => ⟨fun _ => ?_, fun h => absurd (hpp.symm.trans h) (by decide)⟩⟩
    · exfalso; have := of_decide_eq_true h; omega
    · rw [show takR k m p = (.zero, 0, 2) by unfold takR; rw [show (p == 0 || p == 1) = false by simp [hp0, hp1]]; rfl] at hK
      exact fin_k tt_ok (rs := rs_sched_Take) rfl rfl hK [0, 1] rfl rfl rfl rfl rfl rfl
noncomputable abbrev eTake : Ent := .st (conS (P := Try.prog) (f := f_sched_Take) fun cargs σ0 => match cargs, σ0 with
  | [.agg cs, .s (.loc 0 0), .s (.int .i64 d)], [.blk 52 [.sl 1 0 n n'], .own 5 1 c xs] => withCore cs fun k hk => some ⟨.ex (Ram × Core × Int × Int) fun p => .ask (n = p.1.l.length ∧ n' = p.1.l.length ∧ c = p.1.l.length ∧ xs = bytesI p.1.l ∧ (k.ok ∧ -9223372036854775808 ≤ d ∧ d ≤ 9223372036854775807) ∧ takR k p.1 d = p.2)
      (.ret (.tup [.agg p.2.1.sv, .s (.int .i32 p.2.2.1), .s (.int .i64 p.2.2.2)]) [mBox p.1.l.length, mOwn p.1.l]), fun K h => by
      obtain ⟨⟨m, k', e', m'⟩, ⟨e1, e2, e3, e4, h1, h2⟩, h⟩ := h
      dsimp only at e1 e2 e3 e4 h2 h
      subst e1; subst e2; subst e3; subst e4; subst hk
      refine Take_c k m d h1.1 h1.2 K ?_
      rw [h2]; exact h⟩
  | _, _ => none)
theorem takR_ok {k : Core} {m : Ram} {p : Int} (h : k.ok) : (takR k m p).1.ok ∧ I32 (takR k m p).2.1 := by
  have hz : Core.zero.ok := by constructor <;> first | exact ⟨by decide, by decide⟩
  have hi : I32 0 := by unfold I32; omega
  have hnp : I32 NP := by unfold I32 NP; omega
  have hf : I32 (k.fr (p == 1)) := by unfold Core.fr; cases (p == 1); exact h.f0; exact h.f1
  have sF : ∀ {k : Core} (_ : k.ok) (o : Bool) {w : Int} (_ : I32 w), (k.setF o w).ok := fun {k} h o {w} hw => by
    unfold Core.setF; cases o <;> (constructor <;> first | exact hw | exact h.a | exact h.b | exact h.c | exact h.iptr | exact h.wptr | exact h.pri | exact h.f0 | exact h.f1 | exact h.b0 | exact h.b1 | exact h.t0 | exact h.t1 | exact h.k0 | exact h.k1 | exact h.ticks | exact h.slice | exact h.sa | exact h.sb | exact h.sc | exact h.siptr | exact h.swptr | exact h.sslice)
  have sB : ∀ {k : Core} (_ : k.ok) (o : Bool) {w : Int} (_ : I32 w), (k.setB o w).ok := fun {k} h o {w} hw => by
    unfold Core.setB; cases o <;> (constructor <;> first | exact hw | exact h.a | exact h.b | exact h.c | exact h.iptr | exact h.wptr | exact h.pri | exact h.f0 | exact h.f1 | exact h.b0 | exact h.b1 | exact h.t0 | exact h.t1 | exact h.k0 | exact h.k1 | exact h.ticks | exact h.slice | exact h.sa | exact h.sb | exact h.sc | exact h.siptr | exact h.swptr | exact h.sslice)
  unfold takR
  cases (!(p == 0 || p == 1))
  · cases (k.fr (p == 1) == NP)
    · cases (!validB m (k.fr (p == 1)))
      · cases (k.fr (p == 1) == k.bk (p == 1))
        · exact ⟨sF h _ (word_I32 _ _), hf⟩
        · exact ⟨sB (sF h _ hnp) _ hnp, hf⟩
      · exact ⟨hz, hi⟩
    · exact ⟨hz, hi⟩
  · exact ⟨hz, hi⟩
/-- sched.start. -/
def staR (k : Core) (m : Ram) (p : Int) : Core × Int :=
  bif (takR k m p).2.2 != 0 then (.zero, (takR k m p).2.2)
  else ({ (takR k m p).1.nobody with wptr := (takR k m p).2.1, iptr := m.word (IntKind.i32.wrap ((takR k m p).2.1 + -4)), pri := p, busy := true }, 0)
noncomputable abbrev ctSt : CT := [(f_sched_Take, eTake), (f_sched_nobody, in_sched_nobody []), (f_sched_word, in_sched_word ctWo)]
theorem ctSt_ok : CTok Try.prog ctSt := ⟨con_ok cal_sched_Take _, in_sched_nobody_ok (ct := []) trivial, in_sched_word_ok ctWo_ok, trivial⟩
theorem start_c (k : Core) (m : Ram) (p : Int) (hok : k.ok) (hp : -9223372036854775808 ≤ p ∧ p ≤ 9223372036854775807) : Con Try.prog f_sched_start [.agg k.sv, .s (.loc 0 0), .s (.int .i64 p)] [mBox m.l.length, mOwn m.l]
    (.ret (.tup [.agg (staR k m p).1.sv, .s (.int .i64 (staR k m p).2)]) [mBox m.l.length, mOwn m.l]) := by
  intro K hK
  obtain ⟨⟨k', w, e⟩, hR⟩ : ∃ r, takR k m p = r := ⟨_, rfl⟩
  have hok' := takR_ok (m := m) (p := p) hok
  rw [hR] at hok'
  unfold staR at hK
  rw [hR] at hK
  refine enter fn_sched_start rfl nt_sched_start rfl rfl (fun φ w0 β0 F => ?_)
  refine c_run tt_ok ctSt_ok k_sched_start [] 60 (by kernel_rfl) ?_
  refine ⟨(m, k', w, e), ⟨rfl, rfl, rfl, rfl, ⟨hok, hp⟩, hR⟩, ?_⟩
  refine ⟨fun h => ?_, fun h => ?_⟩
  · rw [show (e != 0) = true from h] at hK
    exact fin_k tt_ok (rs := rs_sched_start) rfl rfl hK [0, 1] rfl rfl rfl rfl rfl rfl
  · rw [show (e != 0) = false from h] at hK
    refine ⟨m, ⟨rfl, rfl, rfl, rfl, I32_wrap _⟩, ?_⟩
    exact fin_k tt_ok (rs := rs_sched_start) rfl rfl hK [0, 1] rfl rfl rfl rfl rfl rfl
end Go.Proofs

namespace Go.Proofs
open Go Go.Sx
set_option maxRecDepth 10000
def priB (p : Int) : Bool := p == 0 || p == 1
theorem or1B {p : Int} (hp : -9223372036854775808 ≤ p ∧ p ≤ 9223372036854775807) : (bits .or .i64 p 1 != 1) = !priB p := by
  have hc : p = 0 ∨ p = 1 ∨ (p ≠ 0 ∧ p ≠ 1) := by omega
  rcases hc with rfl | rfl | ⟨h0, h1⟩
  · decide
  · decide
  · have := or1 hp h0 h1
    rw [show priB p = false by simp [priB, h0, h1]]
    simpa using this
theorem told_bl {b c : Bool} {β : Nat → Bd} (h : b = c) : (FV.t (.s (.bool c))).den β = (FV.t (.s (.bool b))).den β := by rw [h]
def Core.sav (k : Core) : Core := { k.nobody with sis := true, sa := k.a, sb := k.b, sc := k.c, siptr := k.iptr, swptr := k.wptr, serr := k.err, sslice := k.slice }
def Core.res (k : Core) : Core := { k with a := k.sa, b := k.sb, c := k.sc, iptr := k.siptr, wptr := k.swptr, err := k.serr, slice := k.sslice, pri := 1, busy := true, sis := false, sa := 0, sb := 0, sc := 0, siptr := 0, swptr := 0, serr := false, sslice := 0 }
def Core.high (k : Core) : Bool := !(k.f0 == NP)
/-- sched.Settle. -/
def setR (k : Core) (m : Ram) : Core × Int :=
  bif !priB k.pri then (.zero, 2)
  else bif k.halted then (k, 0)
  else bif bif bif k.busy then k.pri == 1 else false then k.high else false then staR k.sav m 0
  else bif k.busy then (k, 0)
  else bif k.high then staR k m 0
  else bif k.sis then (k.res, 0)
  else bif !(k.f1 == NP) then staR k m 1
  else (k, 0)
noncomputable abbrev eStart : Ent := .st (conS (P := Try.prog) (f := f_sched_start) fun cargs σ0 => match cargs, σ0 with
  | [.agg cs, .s (.loc 0 0), .s (.int .i64 d)], [.blk 52 [.sl 1 0 n n'], .own 5 1 c xs] => withCore cs fun k hk => some ⟨.ex (Ram × Core × Int) fun p => .ask (n = p.1.l.length ∧ n' = p.1.l.length ∧ c = p.1.l.length ∧ xs = bytesI p.1.l ∧ (k.ok ∧ -9223372036854775808 ≤ d ∧ d ≤ 9223372036854775807) ∧ staR k p.1 d = p.2)
      (.ret (.tup [.agg p.2.1.sv, .s (.int .i64 p.2.2)]) [mBox p.1.l.length, mOwn p.1.l]), fun K h => by
      obtain ⟨⟨m, k', e'⟩, ⟨e1, e2, e3, e4, h1, h2⟩, h⟩ := h
      dsimp only at e1 e2 e3 e4 h2 h
      subst e1; subst e2; subst e3; subst e4; subst hk
      refine start_c k m d h1.1 h1.2 K ?_
      rw [h2]; exact h⟩
  | _, _ => none)
noncomputable abbrev ctSe : CT := [(f_sched_none, in_sched_none ctSz), (f_sched_start, eStart), (f_sched_nobody, in_sched_nobody [])]
theorem ctSe_ok : CTok Try.prog ctSe := ⟨in_sched_none_ok ctSz_ok, con_ok cal_sched_start _, in_sched_nobody_ok (ct := []) trivial, trivial⟩
theorem sav_ok {k : Core} (h : k.ok) : k.sav.ok := by
  have h0 : I32 0 := by unfold I32; omega
  constructor <;> first | exact h0 | exact h.a | exact h.b | exact h.c | exact h.iptr | exact h.wptr | exact ⟨by show (-9223372036854775808 : Int) ≤ 0; decide, by show (0 : Int) ≤ 9223372036854775807; decide⟩ | exact h.f0 | exact h.f1 | exact h.b0 | exact h.b1 | exact h.t0 | exact h.t1 | exact h.k0 | exact h.k1 | exact h.ticks | exact h.slice | exact h.sa | exact h.sb | exact h.sc | exact h.siptr | exact h.swptr | exact h.sslice
theorem Settle_c (k : Core) (m : Ram) (k' : Core) (e' : Int) (hok : k.ok) (hx : setR k m = (k', e')) : Con Try.prog f_sched_Settle [.agg k.sv, .s (.loc 0 0)] [mBox m.l.length, mOwn m.l]
    (.ret (.tup [.agg k'.sv, .s (.int .i64 e')]) [mBox m.l.length, mOwn m.l]) := by
  intro K hK
  have h0 := m.lo
  refine enter fn_sched_Settle rfl nt_sched_Settle rfl rfl (fun φ w0 β0 F => ?_)
  refine c_run tt_ok ctSe_ok k_sched_Settle [100014] 90 (by kernel_rfl) ?_
  refine ⟨fun h => ?_, fun _ => ⟨.t (.s (.bool (!priB k.pri))), fun β => told_bl (or1B hok.pri), rfl, fun h1 => ?_, fun h1 => ?_⟩⟩
  · exfalso; have := of_decide_eq_true h; omega
  · rw [show setR k m = (.zero, 2) by unfold setR; rw [h1]; rfl] at hx
    cases hx
    exact fin_k tt_ok (rs := rs_sched_Settle) rfl rfl hK [0, 1] rfl rfl rfl rfl rfl rfl
  · refine ⟨fun h2 => ?_, fun h2 => ⟨fun h3 => ⟨fun h => absurd h (by decide), fun _ => ⟨fun h4 => ?_, fun h4 => ?_⟩⟩, fun h3 => ⟨fun h4 => ?_, fun h4 => ⟨fun h5 => ?_, fun h5 => ⟨fun h6 => ?_, fun h6 => ⟨fun h7 => ?_, fun h7 => ?_⟩⟩⟩⟩⟩⟩
    · rw [show setR k m = (k, 0) by unfold setR; rw [h1, h2]; rfl] at hx
      cases hx
      exact fin_k tt_ok (rs := rs_sched_Settle) rfl rfl hK [0, 1] rfl rfl rfl rfl rfl rfl
    · rw [show setR k m = staR k.sav m 0 by unfold setR; rw [h1, h2, show (bif bif k.busy then k.pri == 1 else false then k.high else false) = true from h3]; rfl] at hx
      refine ⟨(m, k', e'), ⟨rfl, rfl, rfl, rfl, ⟨sav_ok hok, by decide⟩, hx⟩, ?_⟩
      exact fin_k tt_ok (rs := rs_sched_Settle) rfl rfl hK [0, 1] rfl rfl rfl rfl rfl rfl
    · exfalso
      rw [h4] at h3
      cases hb : (bif k.busy then k.pri == 1 else false) <;> simp [hb] at h3
    all_goals have h3' : (bif bif k.busy then k.pri == 1 else false then k.high else false) = false := h3
    · rw [show setR k m = (k, 0) by unfold setR; rw [h1, h2, h3', h4]; rfl] at hx
      cases hx
      exact fin_k tt_ok (rs := rs_sched_Settle) rfl rfl hK [0, 1] rfl rfl rfl rfl rfl rfl
    · rw [show setR k m = staR k m 0 by unfold setR; rw [h1, h2, h3', h4, show k.high = true from h5]; rfl] at hx
      refine ⟨(m, k', e'), ⟨rfl, rfl, rfl, rfl, ⟨hok, by decide⟩, hx⟩, ?_⟩
      exact fin_k tt_ok (rs := rs_sched_Settle) rfl rfl hK [0, 1] rfl rfl rfl rfl rfl rfl
    · rw [show setR k m = (k.res, 0) by unfold setR; rw [h1, h2, h3', h4, show k.high = false from h5, h6]; rfl] at hx
      cases hx
      refine c_waysH tt_ok ctSe_ok k_sched_Settle [4] rfl rfl rfl ?_
      repeat' (first | exact trivial | exact ⟨rfl, trivial⟩ | (refine And.intro ?_ ?_))
      refine e_run tt_ok ctSe_ok k_sched_Settle [] 60 (by kernel_rfl) ?_
      exact fin_k tt_ok (rs := rs_sched_Settle) rfl rfl hK [0, 1] rfl rfl rfl rfl rfl rfl
    · rw [show setR k m = staR k m 1 by unfold setR; rw [h1, h2, h3', h4, show k.high = false from h5, h6, show (!(k.f1 == NP)) = true from h7]; rfl] at hx
      refine ⟨(m, k', e'), ⟨rfl, rfl, rfl, rfl, ⟨hok, by decide⟩, hx⟩, ?_⟩
      exact fin_k tt_ok (rs := rs_sched_Settle) rfl rfl hK [0, 1] rfl rfl rfl rfl rfl rfl
    · rw [show setR k m = (k, 0) by unfold setR; rw [h1, h2, h3', h4, show k.high = false from h5, h6, show (!(k.f1 == NP)) = false from h7]; rfl] at hx
      cases hx
      exact fin_k tt_ok (rs := rs_sched_Settle) rfl rfl hK [0, 1] rfl rfl rfl rfl rfl rfl
end Go.Proofs

namespace Go.Proofs
open Go Go.Sx
set_option maxRecDepth 10000
noncomputable abbrev eWaitT : Ent := .st (conS (P := Try.prog) (f := f_sched_Wait) fun cargs σ0 => match cargs, σ0 with
  | [.agg cs, .s (.loc 0 0)], [.blk 52 [.sl 1 0 n n'], .own 5 1 c xs] => withCore cs fun k hk => some ⟨.ex (Ram × Core × Int × Ram) fun p => .ask (n = p.1.l.length ∧ n' = p.1.l.length ∧ c = p.1.l.length ∧ xs = bytesI p.1.l ∧ I32 k.wptr ∧ (waitK k p.1, waitE k p.1, waitM k p.1) = p.2)
      (.ret (.tup [.agg p.2.1.sv, .s (.int .i64 p.2.2.1)]) [mBox p.2.2.2.l.length, mOwn p.2.2.2.l]), fun K h => by
      obtain ⟨⟨m, k', e', m'⟩, ⟨e1, e2, e3, e4, h1, h2⟩, h⟩ := h
      dsimp only at e1 e2 e3 e4 h2 h
      subst e1; subst e2; subst e3; subst e4; subst hk
      cases h2
      exact Wait_c k m h1 K h⟩
  | _, _ => none)
def Core.clear (k : Core) : Core := { k with a := 0, b := 0, c := 0 }
theorem clear_ok {k : Core} (h : k.ok) : k.clear.ok := by
  have h0 : I32 0 := by unfold I32; omega
  constructor <;> first | exact h0 | exact h.iptr | exact h.wptr | exact h.pri | exact h.f0 | exact h.f1 | exact h.b0 | exact h.b1 | exact h.t0 | exact h.t1 | exact h.k0 | exact h.k1 | exact h.ticks | exact h.slice | exact h.sa | exact h.sb | exact h.sc | exact h.siptr | exact h.swptr | exact h.sslice
theorem nobody_ok {k : Core} (h : k.ok) : k.nobody.ok := by
  have h0 : I32 0 := by unfold I32; omega
  constructor <;> first | exact h0 | exact h.f0 | exact h.f1 | exact h.b0 | exact h.b1 | exact h.t0 | exact h.t1 | exact h.k0 | exact h.k1 | exact h.ticks | exact h.slice | exact h.sa | exact h.sb | exact h.sc | exact h.siptr | exact h.swptr | exact h.sslice | exact ⟨by show (-9223372036854775808 : Int) ≤ 0; decide, by show (0 : Int) ≤ 9223372036854775807; decide⟩
/-- sched.runp. -/
noncomputable abbrev ctRp : CT := [(f_sched_clear, in_sched_clear []), (f_sched_Append, eAppend)]
theorem ctRp_ok : CTok Try.prog ctRp := ⟨in_sched_clear_ok (ct := []) trivial, con_ok cal_sched_Append _, trivial⟩
theorem runp_c (k : Core) (m : Ram) (k' : Core) (e' : Int) (m' : Ram) (hok : k.ok) (hx : appR k.clear m k.a = (k', e', m')) : Con Try.prog f_sched_runp [.agg k.sv, .s (.loc 0 0)] [mBox m.l.length, mOwn m.l]
    (.ret (.tup [.agg k'.sv, .s (.int .i64 e')]) [mBox m'.l.length, mOwn m'.l]) := by
  intro K hK
  refine enter fn_sched_runp rfl nt_sched_runp rfl rfl (fun φ w0 β0 F => ?_)
  refine c_run tt_ok ctRp_ok k_sched_runp [] 90 (by kernel_rfl) ?_
  refine c_waysH tt_ok ctRp_ok k_sched_runp [2] rfl rfl rfl ?_
  repeat' (first | exact trivial | exact ⟨rfl, trivial⟩ | (refine Exists.intro (m, k', e', m') ?_; refine And.intro ⟨rfl, rfl, rfl, rfl, ⟨clear_ok hok, hok.a⟩, hx⟩ ?_) | (refine And.intro ?_ ?_))
  all_goals
    refine e_run tt_ok ctRp_ok k_sched_runp [] 60 (by kernel_rfl) ?_
    exact fin_k tt_ok (rs := rs_sched_runp) rfl rfl hK [0, 1] rfl rfl rfl rfl rfl rfl
/-- sched.stoperr. -/
def steR (k : Core) (m : Ram) : Core × Int × Ram := bif k.err then (waitK k m, waitE k m, waitM k m) else (k, 0, m)
noncomputable abbrev ctSp : CT := [(f_sched_Wait, eWaitT)]
theorem ctSp_ok : CTok Try.prog ctSp := ⟨con_ok cal_sched_Wait _, trivial⟩
theorem stoperr_c (k : Core) (m : Ram) (k' : Core) (e' : Int) (m' : Ram) (hok : k.ok) (hx : steR k m = (k', e', m')) : Con Try.prog f_sched_stoperr [.agg k.sv, .s (.loc 0 0)] [mBox m.l.length, mOwn m.l]
    (.ret (.tup [.agg k'.sv, .s (.int .i64 e')]) [mBox m'.l.length, mOwn m'.l]) := by
  intro K hK
  refine enter fn_sched_stoperr rfl nt_sched_stoperr rfl rfl (fun φ w0 β0 F => ?_)
  refine c_run tt_ok ctSp_ok k_sched_stoperr [] 90 (by kernel_rfl) ?_
  refine ⟨fun h => ?_, fun h => ?_⟩
  · refine ⟨(m, k', e', m'), ⟨rfl, rfl, rfl, rfl, hok.wptr, by rw [← hx]; unfold steR; rw [h]; rfl⟩, ?_⟩
    exact fin_k tt_ok (rs := rs_sched_stoperr) rfl rfl hK [0, 1] rfl rfl rfl rfl rfl rfl
  · have e : steR k m = (k, 0, m) := by unfold steR; rw [h]; rfl
    rw [e] at hx
    cases hx
    exact fin_k tt_ok (rs := rs_sched_stoperr) rfl rfl hK [0, 1] rfl rfl rfl rfl rfl rfl
/-- sched.ldpri. -/
def ldpK (k : Core) : Core := { k with a := IntKind.i32.wrap k.pri, b := k.a, c := k.b }
theorem ldpri_c (k : Core) (m : Ram) : Con Try.prog f_sched_ldpri [.agg k.sv, .s (.loc 0 0)] [mBox m.l.length, mOwn m.l]
    (.ret (.tup [.agg (ldpK k).sv, .s (.int .i64 0)]) [mBox m.l.length, mOwn m.l]) := by
  intro K hK
  refine enter fn_sched_ldpri rfl nt_sched_ldpri rfl rfl (fun φ w0 β0 F => ?_)
  refine c_run tt_ok (ct := []) trivial k_sched_ldpri [] 90 (by kernel_rfl) ?_
  exact fin_k tt_ok (rs := rs_sched_ldpri) rfl rfl hK [0, 1] rfl rfl rfl rfl rfl rfl
/-- sched.endp. -/
def enpR (k : Core) (m : Ram) : Core × Int × Ram :=
  bif bif !validB m k.a then true else m.err (IntKind.i32.wrap (k.a + 4)) != 0 then (.zero, 4, m)
  else bif m.word (IntKind.i32.wrap (k.a + 4)) != 1 then (k.nobody, 0, m.set (IntKind.i32.wrap (k.a + 4)) (IntKind.i32.wrap (m.word (IntKind.i32.wrap (k.a + 4)) - 1)))
  else ({ k.clear with wptr := k.a, iptr := (m.set (IntKind.i32.wrap (k.a + 4)) (IntKind.i32.wrap (m.word (IntKind.i32.wrap (k.a + 4)) - 1))).word (IntKind.i32.wrap (k.a + 0)) }, 0,
    m.set (IntKind.i32.wrap (k.a + 4)) (IntKind.i32.wrap (m.word (IntKind.i32.wrap (k.a + 4)) - 1)))
noncomputable abbrev ctEn : CT := [(f_mem_Mem_Word, eWordT), (f_sched_valid, eValid), (f_mem_Mem_SetWord, eSetWordT), (f_sched_nobody, in_sched_nobody []), (f_sched_clear, in_sched_clear []), (f_sched_word, in_sched_word ctWo)]
theorem ctEn_ok : CTok Try.prog ctEn := ⟨con_ok cal_mem_Mem_Word _, con_ok cal_sched_valid _, con_ok cal_mem_Mem_SetWord _, in_sched_nobody_ok (ct := []) trivial, in_sched_clear_ok (ct := []) trivial, in_sched_word_ok ctWo_ok, trivial⟩
theorem endp_c (k : Core) (m : Ram) (k' : Core) (e' : Int) (m' : Ram) (hok : k.ok) (hx : enpR k m = (k', e', m')) : Con Try.prog f_sched_endp [.agg k.sv, .s (.loc 0 0)] [mBox m.l.length, mOwn m.l]
    (.ret (.tup [.agg k'.sv, .s (.int .i64 e')]) [mBox m'.l.length, mOwn m'.l]) := by
  intro K hK
  refine enter fn_sched_endp rfl nt_sched_endp rfl rfl (fun φ w0 β0 F => ?_)
  refine c_run tt_ok ctEn_ok k_sched_endp [] 90 (by kernel_rfl) ?_
  refine ⟨m, ⟨rfl, rfl, rfl, rfl, I32_wrap _⟩, ?_⟩
  refine ⟨m, ⟨rfl, rfl, rfl, rfl, hok.a⟩, ?_⟩
  refine ⟨fun h => ?_, fun h => ?_⟩
  · rw [show enpR k m = (.zero, 4, m) by unfold enpR; rw [show (bif !validB m k.a then true else m.err (IntKind.i32.wrap (k.a + 4)) != 0) = true from h]; rfl] at hx
    cases hx
    exact fin_k tt_ok (rs := rs_sched_endp) rfl rfl hK [0, 1] rfl rfl rfl rfl rfl rfl
  · obtain ⟨m1, hm1⟩ : ∃ m1, m.set (IntKind.i32.wrap (k.a + 4)) (IntKind.i32.wrap (m.word (IntKind.i32.wrap (k.a + 4)) - 1)) = m1 := ⟨_, rfl⟩
    unfold enpR at hx
    rw [show (bif !validB m k.a then true else m.err (IntKind.i32.wrap (k.a + 4)) != 0) = false from h, hm1] at hx
    refine ⟨m, ⟨rfl, rfl, rfl, rfl, I32_wrap _⟩, ?_⟩
    rw [hm1]
    refine ⟨fun h2 => ?_, fun h2 => ?_⟩
    · rw [show (m.word (IntKind.i32.wrap (k.a + 4)) != 1) = true from h2] at hx
      cases hx
      exact fin_k tt_ok (rs := rs_sched_endp) rfl rfl hK [0, 1] rfl rfl rfl rfl rfl rfl
    · rw [show (m.word (IntKind.i32.wrap (k.a + 4)) != 1) = false from h2] at hx
      cases hx
      refine ⟨m', ⟨rfl, rfl, rfl, rfl, I32_wrap _⟩, ?_⟩
      exact fin_k tt_ok (rs := rs_sched_endp) rfl rfl hK [0, 1] rfl rfl rfl rfl rfl rfl
theorem waitK_ok {k : Core} {m : Ram} (h : k.ok) : (waitK k m).ok := by
  unfold waitK
  cases (waitE k m == 0)
  · rw [kSel_f]; constructor <;> first | exact ⟨by decide, by decide⟩
  · rw [kSel_t]; exact nobody_ok h
theorem I32_or (a b : Int) : I32 (bits .or .i32 a b) := I32_wrap _
/-- sched.Slice. -/
def sliR (k : Core) (m : Ram) : Core × Int × Ram :=
  bif !priB k.pri then (.zero, 2, m)
  else bif (bif bif bif !k.busy then true else k.pri == 0 then true else decide (k.slice < 64) then true else k.f1 == NP) then (k, 0, m)
  else bif (bif !validB m k.wptr then true else !validB m k.b1) then (.zero, 4, m)
  else appR (waitK k m) (waitM k m) (bits .or .i32 k.wptr 1)
noncomputable abbrev ctSl : CT := [(f_sched_none, in_sched_none ctSz), (f_sched_valid, eValid), (f_sched_Wait, eWaitT), (f_sched_Append, eAppend)]
theorem ctSl_ok : CTok Try.prog ctSl := ⟨in_sched_none_ok ctSz_ok, con_ok cal_sched_valid _, con_ok cal_sched_Wait _, con_ok cal_sched_Append _, trivial⟩
theorem Slice_c (k : Core) (m : Ram) (k' : Core) (e' : Int) (m' : Ram) (hok : k.ok) (hx : sliR k m = (k', e', m')) : Con Try.prog f_sched_Slice [.agg k.sv, .s (.loc 0 0)] [mBox m.l.length, mOwn m.l]
    (.ret (.tup [.agg k'.sv, .s (.int .i64 e')]) [mBox m'.l.length, mOwn m'.l]) := by
  intro K hK
  have h0 := m.lo
  refine enter fn_sched_Slice rfl nt_sched_Slice rfl rfl (fun φ w0 β0 F => ?_)
  refine c_run tt_ok ctSl_ok k_sched_Slice [100013] 90 (by kernel_rfl) ?_
  refine ⟨fun h => ?_, fun _ => ⟨.t (.s (.bool (!priB k.pri))), fun β => told_bl (or1B hok.pri), rfl, fun h1 => ?_, fun h1 => ⟨fun h2 => ?_, fun h2 => ?_⟩⟩⟩
  · exfalso; have := of_decide_eq_true h; omega
  · rw [show sliR k m = (.zero, 2, m) by unfold sliR; rw [h1]; rfl] at hx
    cases hx
    exact fin_k tt_ok (rs := rs_sched_Slice) rfl rfl hK [0, 1] rfl rfl rfl rfl rfl rfl
  · rw [show sliR k m = (k, 0, m) by unfold sliR; rw [h1, show (bif bif bif !k.busy then true else k.pri == 0 then true else decide (k.slice < 64) then true else k.f1 == NP) = true from h2]; rfl] at hx
    cases hx
    exact fin_k tt_ok (rs := rs_sched_Slice) rfl rfl hK [0, 1] rfl rfl rfl rfl rfl rfl
  · unfold sliR at hx
    rw [h1, show (bif bif bif !k.busy then true else k.pri == 0 then true else decide (k.slice < 64) then true else k.f1 == NP) = false from h2] at hx
    refine ⟨m, ⟨rfl, rfl, rfl, rfl, hok.wptr⟩, ?_⟩
    refine ⟨fun h3 => ⟨m, ⟨rfl, rfl, rfl, rfl, hok.b1⟩, fun h4 => ?_, fun h4 => ?_⟩, fun h3 => ?_⟩
    · rw [show (bif !validB m k.wptr then true else !validB m k.b1) = true from h4] at hx
      cases hx
      exact fin_k tt_ok (rs := rs_sched_Slice) rfl rfl hK [0, 1] rfl rfl rfl rfl rfl rfl
    · rw [show (bif !validB m k.wptr then true else !validB m k.b1) = false from h4] at hx
      obtain ⟨k1, hk1⟩ : ∃ k1, waitK k m = k1 := ⟨_, rfl⟩
      obtain ⟨m1, hm1⟩ : ∃ m1, waitM k m = m1 := ⟨_, rfl⟩
      have hk1' : k1.ok := by rw [← hk1]; exact waitK_ok hok
      rw [hk1, hm1] at hx
      refine ⟨(m, k1, waitE k m, m1), ⟨rfl, rfl, rfl, rfl, hok.wptr, by rw [hk1, hm1]⟩, ?_⟩
      refine ⟨(m1, k', e', m'), ⟨rfl, rfl, rfl, rfl, ⟨hk1', I32_or _ _⟩, hx⟩, ?_⟩
      exact fin_k tt_ok (rs := rs_sched_Slice) rfl rfl hK [0, 1] rfl rfl rfl rfl rfl rfl
    · refine ⟨fun h => absurd (h3.symm.trans h) (by decide), fun _ => ⟨h3, fun _ => ?_, fun h => absurd h (by decide)⟩⟩
      rw [show (!validB m k.wptr) = true from h3] at hx
      cases hx
      exact fin_k tt_ok (rs := rs_sched_Slice) rfl rfl hK [0, 1] rfl rfl rfl rfl rfl rfl
/-- sched.startp. -/
def stpR (k : Core) (m : Ram) : Core × Int × Ram :=
  bif bif !validB m k.a then true else bif !(k.fr (k.pri == 1) == NP) then !validB m (k.bk (k.pri == 1)) else false then (.zero, 4, m)
  else appR k.clear (m.set (IntKind.i32.wrap (k.a + -4)) (IntKind.i32.wrap (k.iptr + k.b))) (bits .or .i32 k.a k.pri)
noncomputable abbrev ctSa : CT := [(f_sched_valid, eValid), (f_mem_Mem_SetWord, eSetWordT), (f_sched_clear, in_sched_clear []), (f_sched_Append, eAppend)]
theorem ctSa_ok : CTok Try.prog ctSa := ⟨con_ok cal_sched_valid _, con_ok cal_mem_Mem_SetWord _, in_sched_clear_ok (ct := []) trivial, con_ok cal_sched_Append _, trivial⟩
theorem startp_c (k : Core) (m : Ram) (k' : Core) (e' : Int) (m' : Ram) (hok : k.ok) (hp : k.pri = 0 ∨ k.pri = 1) (hx : stpR k m = (k', e', m')) : Con Try.prog f_sched_startp [.agg k.sv, .s (.loc 0 0)] [mBox m.l.length, mOwn m.l]
    (.ret (.tup [.agg k'.sv, .s (.int .i64 e')]) [mBox m'.l.length, mOwn m'.l]) := by
  obtain ⟨a, b, c, iptr, wptr, pri, busy, err, hoe, halted, f0, f1, b0, b1, t0, t1, k0, k1, ticks, slice, sis, sa, sb, sc, siptr, swptr, serr, sslice⟩ := k
  dsimp only at hp
  rcases hp with rfl | rfl
  · intro K hK
    have hE : stpR (Core.mk a b c iptr wptr 0 busy err hoe halted f0 f1 b0 b1 t0 t1 k0 k1 ticks slice sis sa sb sc siptr swptr serr sslice) m = bif bif !validB m a then true else bif !(f0 == NP) then !validB m b0 else false then (.zero, 4, m)
      else appR (Core.clear (Core.mk a b c iptr wptr 0 busy err hoe halted f0 f1 b0 b1 t0 t1 k0 k1 ticks slice sis sa sb sc siptr swptr serr sslice)) (m.set (IntKind.i32.wrap (a + -4)) (IntKind.i32.wrap (iptr + b))) (bits .or .i32 a 0) := rfl
    rw [hE] at hx
    refine enter fn_sched_startp rfl nt_sched_startp rfl rfl (fun φ w0 β0 F => ?_)
    refine c_run tt_ok ctSa_ok k_sched_startp [] 90 (by kernel_rfl) ?_
    refine ⟨m, ⟨rfl, rfl, rfl, rfl, hok.a⟩, ?_⟩
    refine ⟨fun h => ⟨m, ⟨rfl, rfl, rfl, rfl, hok.b0⟩, fun h2 => ?_, fun h2 => ?_⟩, fun h => ⟨fun h2 => absurd (h.symm.trans h2) (by decide), fun _ => ⟨fun hv => (by rw [hv] at h; exact h), fun h2 => ?_, fun h2 => ?_⟩⟩⟩
    · have hV : validB m a = true := by cases hv : validB m a <;> simp [hv] at h ⊢
      have hF : (f0 == NP) = false := by cases hv : (f0 == NP) <;> simp [NP] at hv h ⊢ <;> simp_all
      have hB : validB m b0 = false := by cases hv : validB m b0 <;> simp [hv, hV] at h2 ⊢
      rw [hV, hF, hB] at hx
      cases hx
      exact fin_k tt_ok (rs := rs_sched_startp) rfl rfl hK [0, 1] rfl rfl rfl rfl rfl rfl
    · have hV : validB m a = true := by cases hv : validB m a <;> simp [hv] at h ⊢
      have hF : (f0 == NP) = false := by cases hv : (f0 == NP) <;> simp [NP] at hv h ⊢ <;> simp_all
      have hB : validB m b0 = true := by cases hv : validB m b0 <;> simp [hv, hV] at h2 ⊢
      have hgo : (bif !validB m a then true else bif !(f0 == NP) then !validB m b0 else false) = false := by rw [hV, hF, hB]; rfl
      rw [hgo] at hx
      refine ⟨m, ⟨rfl, rfl, rfl, rfl, I32_wrap _⟩, ?_⟩
      obtain ⟨m1, hm1⟩ : ∃ m1, m.set (IntKind.i32.wrap (a + -4)) (IntKind.i32.wrap (iptr + b)) = m1 := ⟨_, rfl⟩
      rw [hm1] at hx ⊢
      refine c_waysH tt_ok ctSa_ok k_sched_startp [2] rfl rfl rfl ?_
      repeat' (first | exact trivial | exact ⟨rfl, trivial⟩ | (refine Exists.intro (m1, k', e', m') ?_; refine And.intro ⟨rfl, rfl, rfl, rfl, ⟨clear_ok hok, I32_or _ _⟩, hx⟩ ?_) | (refine And.intro ?_ ?_))
      all_goals
        refine e_run tt_ok ctSa_ok k_sched_startp [] 60 (by kernel_rfl) ?_
        exact fin_k tt_ok (rs := rs_sched_startp) rfl rfl hK [0, 1] rfl rfl rfl rfl rfl rfl
    · have hV : validB m a = false := by cases hv : validB m a <;> simp [hv] at h2 ⊢
      rw [hV] at hx
      cases hx
      exact fin_k tt_ok (rs := rs_sched_startp) rfl rfl hK [0, 1] rfl rfl rfl rfl rfl rfl
    · have hV : validB m a = true := by cases hv : validB m a <;> simp [hv] at h2 ⊢
      have hF : (f0 == NP) = true := by cases hv : (f0 == NP) <;> simp [NP, hV] at hv h ⊢ <;> simp_all
      have hgo : (bif !validB m a then true else bif !(f0 == NP) then !validB m b0 else false) = false := by rw [hV, hF]; rfl
      rw [hgo] at hx
      refine ⟨m, ⟨rfl, rfl, rfl, rfl, I32_wrap _⟩, ?_⟩
      obtain ⟨m1, hm1⟩ : ∃ m1, m.set (IntKind.i32.wrap (a + -4)) (IntKind.i32.wrap (iptr + b)) = m1 := ⟨_, rfl⟩
      rw [hm1] at hx ⊢
      refine c_waysH tt_ok ctSa_ok k_sched_startp [2] rfl rfl rfl ?_
      repeat' (first | exact trivial | exact ⟨rfl, trivial⟩ | (refine Exists.intro (m1, k', e', m') ?_; refine And.intro ⟨rfl, rfl, rfl, rfl, ⟨clear_ok hok, I32_or _ _⟩, hx⟩ ?_) | (refine And.intro ?_ ?_))
      all_goals
        refine e_run tt_ok ctSa_ok k_sched_startp [] 60 (by kernel_rfl) ?_
        exact fin_k tt_ok (rs := rs_sched_startp) rfl rfl hK [0, 1] rfl rfl rfl rfl rfl rfl
  · intro K hK
    have hE : stpR (Core.mk a b c iptr wptr 1 busy err hoe halted f0 f1 b0 b1 t0 t1 k0 k1 ticks slice sis sa sb sc siptr swptr serr sslice) m = bif bif !validB m a then true else bif !(f1 == NP) then !validB m b1 else false then (.zero, 4, m)
      else appR (Core.clear (Core.mk a b c iptr wptr 1 busy err hoe halted f0 f1 b0 b1 t0 t1 k0 k1 ticks slice sis sa sb sc siptr swptr serr sslice)) (m.set (IntKind.i32.wrap (a + -4)) (IntKind.i32.wrap (iptr + b))) (bits .or .i32 a 1) := rfl
    rw [hE] at hx
    refine enter fn_sched_startp rfl nt_sched_startp rfl rfl (fun φ w0 β0 F => ?_)
    refine c_run tt_ok ctSa_ok k_sched_startp [] 90 (by kernel_rfl) ?_
    refine ⟨m, ⟨rfl, rfl, rfl, rfl, hok.a⟩, ?_⟩
    refine ⟨fun h => ⟨m, ⟨rfl, rfl, rfl, rfl, hok.b1⟩, fun h2 => ?_, fun h2 => ?_⟩, fun h => ⟨fun h2 => absurd (h.symm.trans h2) (by decide), fun _ => ⟨fun hv => (by rw [hv] at h; exact h), fun h2 => ?_, fun h2 => ?_⟩⟩⟩
    · have hV : validB m a = true := by cases hv : validB m a <;> simp [hv] at h ⊢
      have hF : (f1 == NP) = false := by cases hv : (f1 == NP) <;> simp [NP] at hv h ⊢ <;> simp_all
      have hB : validB m b1 = false := by cases hv : validB m b1 <;> simp [hv, hV] at h2 ⊢
      rw [hV, hF, hB] at hx
      cases hx
      exact fin_k tt_ok (rs := rs_sched_startp) rfl rfl hK [0, 1] rfl rfl rfl rfl rfl rfl
    · have hV : validB m a = true := by cases hv : validB m a <;> simp [hv] at h ⊢
      have hF : (f1 == NP) = false := by cases hv : (f1 == NP) <;> simp [NP] at hv h ⊢ <;> simp_all
      have hB : validB m b1 = true := by cases hv : validB m b1 <;> simp [hv, hV] at h2 ⊢
      have hgo : (bif !validB m a then true else bif !(f1 == NP) then !validB m b1 else false) = false := by rw [hV, hF, hB]; rfl
      rw [hgo] at hx
      refine ⟨m, ⟨rfl, rfl, rfl, rfl, I32_wrap _⟩, ?_⟩
      obtain ⟨m1, hm1⟩ : ∃ m1, m.set (IntKind.i32.wrap (a + -4)) (IntKind.i32.wrap (iptr + b)) = m1 := ⟨_, rfl⟩
      rw [hm1] at hx ⊢
      refine c_waysH tt_ok ctSa_ok k_sched_startp [2] rfl rfl rfl ?_
      repeat' (first | exact trivial | exact ⟨rfl, trivial⟩ | (refine Exists.intro (m1, k', e', m') ?_; refine And.intro ⟨rfl, rfl, rfl, rfl, ⟨clear_ok hok, I32_or _ _⟩, hx⟩ ?_) | (refine And.intro ?_ ?_))
      all_goals
        refine e_run tt_ok ctSa_ok k_sched_startp [] 60 (by kernel_rfl) ?_
        exact fin_k tt_ok (rs := rs_sched_startp) rfl rfl hK [0, 1] rfl rfl rfl rfl rfl rfl
    · have hV : validB m a = false := by cases hv : validB m a <;> simp [hv] at h2 ⊢
      rw [hV] at hx
      cases hx
      exact fin_k tt_ok (rs := rs_sched_startp) rfl rfl hK [0, 1] rfl rfl rfl rfl rfl rfl
    · have hV : validB m a = true := by cases hv : validB m a <;> simp [hv] at h2 ⊢
      have hF : (f1 == NP) = true := by cases hv : (f1 == NP) <;> simp [NP, hV] at hv h ⊢ <;> simp_all
      have hgo : (bif !validB m a then true else bif !(f1 == NP) then !validB m b1 else false) = false := by rw [hV, hF]; rfl
      rw [hgo] at hx
      refine ⟨m, ⟨rfl, rfl, rfl, rfl, I32_wrap _⟩, ?_⟩
      obtain ⟨m1, hm1⟩ : ∃ m1, m.set (IntKind.i32.wrap (a + -4)) (IntKind.i32.wrap (iptr + b)) = m1 := ⟨_, rfl⟩
      rw [hm1] at hx ⊢
      refine c_waysH tt_ok ctSa_ok k_sched_startp [2] rfl rfl rfl ?_
      repeat' (first | exact trivial | exact ⟨rfl, trivial⟩ | (refine Exists.intro (m1, k', e', m') ?_; refine And.intro ⟨rfl, rfl, rfl, rfl, ⟨clear_ok hok, I32_or _ _⟩, hx⟩ ?_) | (refine And.intro ?_ ?_))
      all_goals
        refine e_run tt_ok ctSa_ok k_sched_startp [] 60 (by kernel_rfl) ?_
        exact fin_k tt_ok (rs := rs_sched_startp) rfl rfl hK [0, 1] rfl rfl rfl rfl rfl rfl
end Go.Proofs

namespace Go.Proofs
open Go Go.Sx
set_option maxRecDepth 10000
def opM : List (IntKind × Int × TV) := [(.i32, 13, .clo (.func 55) [] []), (.i32, 3, .clo (.func 56) [] []), (.i32, 57, .clo (.func 57) [] []), (.i32, 21, .clo (.func 20) [] []), (.i32, 85, .clo (.func 58) [] []), (.i32, 30, .clo (.func 59) [] [])]
theorem operations_c : Con Try.prog f_sched_operations [] [] (.ret (.t (.s (.mp 0))) [.mp opM]) := by
  intro K hK
  refine enter fn_sched_operations rfl nt_sched_operations rfl rfl (fun φ w0 β0 F => ?_)
  refine c_run tt_ok (ct := []) trivial k_sched_operations [] 60 (by kernel_rfl) ?_
  refine ⟨rfl, rfl, rfl, rfl, rfl, rfl, ?_⟩
  exact fin_k tt_ok (rs := rs_sched_operations) rfl rfl hK [0] rfl rfl rfl rfl rfl rfl
noncomputable abbrev eOps : Ent := .st (conS (P := Try.prog) (f := f_sched_operations) fun cargs σ0 => match cargs, σ0 with
  | [], [] => some ⟨.ret (.t (.s (.mp 0))) [.mp opM], fun K h => operations_c K h⟩
  | _, _ => none)
def isOp (n : Int) : Bool := n == 13 || n == 3 || n == 57 || n == 21 || n == 85 || n == 30
theorem op_cases {n : Int} (h : isOp n = true) : n = 13 ∨ n = 3 ∨ n = 57 ∨ n = 21 ∨ n = 85 ∨ n = 30 := by
  unfold isOp at h
  simp only [Bool.or_eq_true, beq_iff_eq] at h
  omega
theorem lookO_none {n : Int} (h : isOp n = false) : lookE opM n = none := by
  unfold isOp at h
  simp only [Bool.or_eq_false_iff] at h
  obtain ⟨⟨⟨⟨⟨h0, h1⟩, h2⟩, h3⟩, h4⟩, h5⟩ := h
  simp only [opM, lookE, h0, h1, h2, h3, h4, h5]
theorem lookO_some {n : Int} (h : isOp n = true) : ∃ g, lookE opM n = some (.clo (.func g) [] []) := by
  rcases op_cases h with rfl | rfl | rfl | rfl | rfl | rfl <;> exact ⟨_, rfl⟩
def mineB (fn n : Int) : Bool := bif fn == 15 then isOp n else false
noncomputable abbrev ctMn : CT := [(f_sched_operations, eOps)]
theorem ctMn_ok : CTok Try.prog ctMn := ⟨con_ok cal_sched_operations _, trivial⟩
set_option maxHeartbeats 1000000 in
theorem Mine_c (fn n : Int) : Con Try.prog f_sched_Mine [.agg [.int .u8 fn, .int .i32 n]] [] (.ret (.t (.s (.bool (mineB fn n)))) []) := by
  intro K hK
  refine enter fn_sched_Mine rfl nt_sched_Mine rfl rfl (fun φ w0 β0 F => ?_)
  refine c_run tt_ok ctMn_ok k_sched_Mine [] 60 (by kernel_rfl) ?_
  refine c_waysH tt_ok ctMn_ok k_sched_Mine [0] rfl rfl rfl ?_
  cases hf : (fn == 15) with
  | false =>
    rw [show mineB fn n = false by unfold mineB; rw [hf]; rfl] at hK
    repeat' (first | exact trivial | exact ⟨rfl, trivial⟩ | exact (rfl : true = true) | exact hf | (intro h; exfalso; rw [hf] at h; revert h; decide) | (intro h; exfalso; revert h; decide) | (refine And.intro ?_ ?_) | (refine fun _ => ?_))
    all_goals
      refine e_run tt_ok ctMn_ok k_sched_Mine [] 60 (by kernel_rfl) ?_
      exact fin_k tt_ok (rs := rs_sched_Mine) rfl rfl hK [] (by first | rfl | (rw [hf]; rfl)) rfl rfl rfl rfl rfl
  | true =>
    rw [show mineB fn n = isOp n by unfold mineB; rw [hf]; rfl] at hK
    cases hO : isOp n with
    | false =>
      rw [hO] at hK
      repeat' (first | exact trivial | exact ⟨rfl, trivial⟩ | exact (rfl : true = true) | exact hf | (intro h; exfalso; rw [hf] at h; revert h; decide) | (intro h; exfalso; revert h; decide) | (refine Exists.intro none ?_; refine And.intro (lookO_none hO) ?_) | (refine And.intro ?_ ?_) | (refine fun _ => ?_))
      all_goals
        refine e_run tt_ok ctMn_ok k_sched_Mine [] 60 (by kernel_rfl) ?_
        exact fin_k tt_ok (rs := rs_sched_Mine) rfl rfl hK [] (by first | rfl | (rw [hf]; rfl)) rfl rfl rfl rfl rfl
    | true =>
      rw [hO] at hK
      obtain ⟨g, hg⟩ := lookO_some hO
      repeat' (first | exact trivial | exact ⟨rfl, trivial⟩ | exact (rfl : true = true) | exact hf | (intro h; exfalso; rw [hf] at h; revert h; decide) | (intro h; exfalso; revert h; decide) | (refine Exists.intro (some (.clo (.func g) [] [])) ?_; refine And.intro hg ?_) | (refine And.intro ?_ ?_) | (refine fun _ => ?_))
      all_goals
        refine e_run tt_ok ctMn_ok k_sched_Mine [] 60 (by kernel_rfl) ?_
        exact fin_k tt_ok (rs := rs_sched_Mine) rfl rfl hK [] (by first | rfl | (rw [hf]; rfl)) rfl rfl rfl rfl rfl
noncomputable abbrev eMine : Ent := .st (conS (P := Try.prog) (f := f_sched_Mine) fun cargs σ0 => match cargs, σ0 with
  | [.agg [.int .u8 fn, .int .i32 n]], [] => some ⟨.ret (.t (.s (.bool (mineB fn n)))) [], fun K h => Mine_c fn n K h⟩
  | _, _ => none)
noncomputable abbrev eStartp : Ent := .st (conS (P := Try.prog) (f := f_sched_startp) fun cargs σ0 => match cargs, σ0 with
  | [.agg cs, .s (.loc 0 0)], [.blk 52 [.sl 1 0 n n'], .own 5 1 c xs] => withCore cs fun k hk => some ⟨.ex (Ram × Core × Int × Ram) fun p => .ask (n = p.1.l.length ∧ n' = p.1.l.length ∧ c = p.1.l.length ∧ xs = bytesI p.1.l ∧ (k.ok ∧ (k.pri = 0 ∨ k.pri = 1)) ∧ stpR k p.1 = p.2)
      (.ret (.tup [.agg p.2.1.sv, .s (.int .i64 p.2.2.1)]) [mBox p.2.2.2.l.length, mOwn p.2.2.2.l]), fun K h => by
      obtain ⟨⟨m, k', e', m'⟩, ⟨e1, e2, e3, e4, h1, h2⟩, h⟩ := h
      dsimp only at e1 e2 e3 e4 h2 h
      subst e1; subst e2; subst e3; subst e4; subst hk
      exact startp_c k m k' e' m' h1.1 h1.2 h2 K h⟩
  | _, _ => none)
noncomputable abbrev eEndp : Ent := .st (conS (P := Try.prog) (f := f_sched_endp) fun cargs σ0 => match cargs, σ0 with
  | [.agg cs, .s (.loc 0 0)], [.blk 52 [.sl 1 0 n n'], .own 5 1 c xs] => withCore cs fun k hk => some ⟨.ex (Ram × Core × Int × Ram) fun p => .ask (n = p.1.l.length ∧ n' = p.1.l.length ∧ c = p.1.l.length ∧ xs = bytesI p.1.l ∧ k.ok ∧ enpR k p.1 = p.2)
      (.ret (.tup [.agg p.2.1.sv, .s (.int .i64 p.2.2.1)]) [mBox p.2.2.2.l.length, mOwn p.2.2.2.l]), fun K h => by
      obtain ⟨⟨m, k', e', m'⟩, ⟨e1, e2, e3, e4, h1, h2⟩, h⟩ := h
      dsimp only at e1 e2 e3 e4 h2 h
      subst e1; subst e2; subst e3; subst e4; subst hk
      exact endp_c k m k' e' m' h1 h2 K h⟩
  | _, _ => none)
noncomputable abbrev eRunp : Ent := .st (conS (P := Try.prog) (f := f_sched_runp) fun cargs σ0 => match cargs, σ0 with
  | [.agg cs, .s (.loc 0 0)], [.blk 52 [.sl 1 0 n n'], .own 5 1 c xs] => withCore cs fun k hk => some ⟨.ex (Ram × Core × Int × Ram) fun p => .ask (n = p.1.l.length ∧ n' = p.1.l.length ∧ c = p.1.l.length ∧ xs = bytesI p.1.l ∧ k.ok ∧ appR k.clear p.1 k.a = p.2)
      (.ret (.tup [.agg p.2.1.sv, .s (.int .i64 p.2.2.1)]) [mBox p.2.2.2.l.length, mOwn p.2.2.2.l]), fun K h => by
      obtain ⟨⟨m, k', e', m'⟩, ⟨e1, e2, e3, e4, h1, h2⟩, h⟩ := h
      dsimp only at e1 e2 e3 e4 h2 h
      subst e1; subst e2; subst e3; subst e4; subst hk
      exact runp_c k m k' e' m' h1 h2 K h⟩
  | _, _ => none)
noncomputable abbrev eStoperr : Ent := .st (conS (P := Try.prog) (f := f_sched_stoperr) fun cargs σ0 => match cargs, σ0 with
  | [.agg cs, .s (.loc 0 0)], [.blk 52 [.sl 1 0 n n'], .own 5 1 c xs] => withCore cs fun k hk => some ⟨.ex (Ram × Core × Int × Ram) fun p => .ask (n = p.1.l.length ∧ n' = p.1.l.length ∧ c = p.1.l.length ∧ xs = bytesI p.1.l ∧ k.ok ∧ steR k p.1 = p.2)
      (.ret (.tup [.agg p.2.1.sv, .s (.int .i64 p.2.2.1)]) [mBox p.2.2.2.l.length, mOwn p.2.2.2.l]), fun K h => by
      obtain ⟨⟨m, k', e', m'⟩, ⟨e1, e2, e3, e4, h1, h2⟩, h⟩ := h
      dsimp only at e1 e2 e3 e4 h2 h
      subst e1; subst e2; subst e3; subst e4; subst hk
      exact stoperr_c k m k' e' m' h1 h2 K h⟩
  | _, _ => none)
noncomputable abbrev eLdpri : Ent := .st (conS (P := Try.prog) (f := f_sched_ldpri) fun cargs σ0 => match cargs, σ0 with
  | [.agg cs, .s (.loc 0 0)], [.blk 52 [.sl 1 0 n n'], .own 5 1 c xs] => withCore cs fun k hk => some ⟨.ex (Ram × Core × Int × Ram) fun p => .ask (n = p.1.l.length ∧ n' = p.1.l.length ∧ c = p.1.l.length ∧ xs = bytesI p.1.l ∧ True ∧ (ldpK k, 0, p.1) = p.2)
      (.ret (.tup [.agg p.2.1.sv, .s (.int .i64 p.2.2.1)]) [mBox p.2.2.2.l.length, mOwn p.2.2.2.l]), fun K h => by
      obtain ⟨⟨m, k', e', m'⟩, ⟨e1, e2, e3, e4, h1, h2⟩, h⟩ := h
      dsimp only at e1 e2 e3 e4 h2 h
      subst e1; subst e2; subst e3; subst e4; subst hk
      cases h2; exact ldpri_c k m K h⟩
  | _, _ => none)
/-- sched.Exec. -/
def opR (k : Core) (m : Ram) (n : Int) : Core × Int × Ram :=
  bif n == 13 then stpR k m else bif n == 3 then enpR k m else bif n == 57 then appR k.clear m k.a else bif n == 21 then (waitK k m, waitE k m, waitM k m) else bif n == 85 then steR k m else (ldpK k, 0, m)
def exeR (k : Core) (m : Ram) (fn n : Int) : Core × Int × Ram :=
  bif !priB k.pri then (.zero, 2, m) else bif !mineB fn n then (.zero, 280, m) else bif !k.busy then (.zero, 8, m) else opR k m n
noncomputable abbrev ctEx : CT := [(f_sched_none, in_sched_none ctSz), (f_sched_Mine, eMine), (f_sched_operations, eOps), (f_sched_startp, eStartp), (f_sched_endp, eEndp), (f_sched_runp, eRunp), (f_sched_Wait, eWaitT), (f_sched_stoperr, eStoperr), (f_sched_ldpri, eLdpri)]
theorem ctEx_ok : CTok Try.prog ctEx := ⟨in_sched_none_ok ctSz_ok, con_ok cal_sched_Mine _, con_ok cal_sched_operations _, con_ok cal_sched_startp _, con_ok cal_sched_endp _, con_ok cal_sched_runp _, con_ok cal_sched_Wait _, con_ok cal_sched_stoperr _, con_ok cal_sched_ldpri _, trivial⟩
theorem priB_iff {p : Int} (h : (!priB p) = false) : p = 0 ∨ p = 1 := by
  unfold priB at h
  simp only [Bool.not_eq_false', Bool.or_eq_true, beq_iff_eq] at h
  exact h
set_option maxHeartbeats 1000000 in
theorem Exec_c (k : Core) (m : Ram) (fn n : Int) (k' : Core) (e' : Int) (m' : Ram) (hok : k.ok) (hx : exeR k m fn n = (k', e', m')) : Con Try.prog f_sched_Exec [.agg k.sv, .s (.loc 0 0), .agg [.int .u8 fn, .int .i32 n]] [mBox m.l.length, mOwn m.l]
    (.ret (.tup [.agg k'.sv, .s (.int .i64 e')]) [mBox m'.l.length, mOwn m'.l]) := by
  intro K hK
  have h0 := m.lo
  unfold exeR at hx
  refine enter fn_sched_Exec rfl nt_sched_Exec rfl rfl (fun φ w0 β0 F => ?_)
  refine c_run tt_ok ctEx_ok k_sched_Exec [100016] 90 (by kernel_rfl) ?_
  refine ⟨fun h => ?_, fun _ => ⟨.t (.s (.bool (!priB k.pri))), fun β => told_bl (or1B hok.pri), rfl, fun h1 => ?_, fun h1 => ⟨fun h2 => ?_, fun h2 => ⟨fun h3 => ?_, fun h3 => ?_⟩⟩⟩⟩
  · exfalso; have := of_decide_eq_true h; omega
  · rw [h1] at hx
    cases hx
    exact fin_k tt_ok (rs := rs_sched_Exec) rfl rfl hK [0, 1] rfl rfl rfl rfl rfl rfl
  · rw [h1, show (!mineB fn n) = true from h2] at hx
    cases hx
    exact fin_k tt_ok (rs := rs_sched_Exec) rfl rfl hK [0, 1] rfl rfl rfl rfl rfl rfl
  · rw [h1, show (!mineB fn n) = false from h2, show (!k.busy) = true from h3] at hx
    cases hx
    exact fin_k tt_ok (rs := rs_sched_Exec) rfl rfl hK [0, 1] rfl rfl rfl rfl rfl rfl
  · rw [h1, show (!mineB fn n) = false from h2, show (!k.busy) = false from h3] at hx
    have hO : isOp n = true := by
      have : mineB fn n = true := by simpa using h2
      unfold mineB at this
      cases hf : (fn == 15) <;> rw [hf] at this
      · cases this
      · exact this
    have hp := priB_iff h1
    clear h2
    rcases op_cases hO with rfl | rfl | rfl | rfl | rfl | rfl
    · refine c_waysH tt_ok ctEx_ok k_sched_Exec [2, 3] rfl rfl rfl ?_
      repeat' (first | exact trivial | exact ⟨rfl, rfl, trivial⟩ | (refine Exists.intro (some (.clo (.func 55) [] [])) ?_; refine And.intro rfl ?_) | (refine Exists.intro (m, k', e', m') ?_; refine And.intro ⟨rfl, rfl, rfl, rfl, ⟨hok, hp⟩, hx⟩ ?_) | (refine And.intro ?_ ?_) | (refine fun _ => ?_))
      all_goals
        refine e_run tt_ok ctEx_ok k_sched_Exec [] 60 (by kernel_rfl) ?_
        exact fin_k tt_ok (rs := rs_sched_Exec) rfl rfl hK [0, 1] rfl rfl rfl rfl rfl rfl
    · refine c_waysH tt_ok ctEx_ok k_sched_Exec [2, 3] rfl rfl rfl ?_
      repeat' (first | exact trivial | exact ⟨rfl, rfl, trivial⟩ | (refine Exists.intro (some (.clo (.func 56) [] [])) ?_; refine And.intro rfl ?_) | (refine Exists.intro (m, k', e', m') ?_; refine And.intro ⟨rfl, rfl, rfl, rfl, hok, hx⟩ ?_) | (refine And.intro ?_ ?_) | (refine fun _ => ?_))
      all_goals
        refine e_run tt_ok ctEx_ok k_sched_Exec [] 60 (by kernel_rfl) ?_
        exact fin_k tt_ok (rs := rs_sched_Exec) rfl rfl hK [0, 1] rfl rfl rfl rfl rfl rfl
    · refine c_waysH tt_ok ctEx_ok k_sched_Exec [2, 3] rfl rfl rfl ?_
      repeat' (first | exact trivial | exact ⟨rfl, rfl, trivial⟩ | (refine Exists.intro (some (.clo (.func 57) [] [])) ?_; refine And.intro rfl ?_) | (refine Exists.intro (m, k', e', m') ?_; refine And.intro ⟨rfl, rfl, rfl, rfl, hok, hx⟩ ?_) | (refine And.intro ?_ ?_) | (refine fun _ => ?_))
      all_goals
        refine e_run tt_ok ctEx_ok k_sched_Exec [] 60 (by kernel_rfl) ?_
        exact fin_k tt_ok (rs := rs_sched_Exec) rfl rfl hK [0, 1] rfl rfl rfl rfl rfl rfl
    · refine c_waysH tt_ok ctEx_ok k_sched_Exec [2, 3] rfl rfl rfl ?_
      repeat' (first | exact trivial | exact ⟨rfl, rfl, trivial⟩ | (refine Exists.intro (some (.clo (.func 20) [] [])) ?_; refine And.intro rfl ?_) | (refine Exists.intro (m, k', e', m') ?_; refine And.intro ⟨rfl, rfl, rfl, rfl, hok.wptr, hx⟩ ?_) | (refine And.intro ?_ ?_) | (refine fun _ => ?_))
      all_goals
        refine e_run tt_ok ctEx_ok k_sched_Exec [] 60 (by kernel_rfl) ?_
        exact fin_k tt_ok (rs := rs_sched_Exec) rfl rfl hK [0, 1] rfl rfl rfl rfl rfl rfl
    · refine c_waysH tt_ok ctEx_ok k_sched_Exec [2, 3] rfl rfl rfl ?_
      repeat' (first | exact trivial | exact ⟨rfl, rfl, trivial⟩ | (refine Exists.intro (some (.clo (.func 58) [] [])) ?_; refine And.intro rfl ?_) | (refine Exists.intro (m, k', e', m') ?_; refine And.intro ⟨rfl, rfl, rfl, rfl, hok, hx⟩ ?_) | (refine And.intro ?_ ?_) | (refine fun _ => ?_))
      all_goals
        refine e_run tt_ok ctEx_ok k_sched_Exec [] 60 (by kernel_rfl) ?_
        exact fin_k tt_ok (rs := rs_sched_Exec) rfl rfl hK [0, 1] rfl rfl rfl rfl rfl rfl
    · refine c_waysH tt_ok ctEx_ok k_sched_Exec [2, 3] rfl rfl rfl ?_
      repeat' (first | exact trivial | exact ⟨rfl, rfl, trivial⟩ | (refine Exists.intro (some (.clo (.func 59) [] [])) ?_; refine And.intro rfl ?_) | (refine Exists.intro (m, k', e', m') ?_; refine And.intro ⟨rfl, rfl, rfl, rfl, trivial, hx⟩ ?_) | (refine And.intro ?_ ?_) | (refine fun _ => ?_))
      all_goals
        refine e_run tt_ok ctEx_ok k_sched_Exec [] 60 (by kernel_rfl) ?_
        exact fin_k tt_ok (rs := rs_sched_Exec) rfl rfl hK [0, 1] rfl rfl rfl rfl rfl rfl
end Go.Proofs
