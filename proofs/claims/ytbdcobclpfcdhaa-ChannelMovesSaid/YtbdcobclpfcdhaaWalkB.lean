/- The unit's methods: short, resetch; the map of operations. -/
import Derived.Test.YtbdcobclpfcdhaaWalkA

namespace Go.Proofs
open Go Go.Sx
set_option maxRecDepth 10000
def Core.uv (k : Core) : List SV := k.sv ++ [.loc 0 0]
def withUnit.{u} {β : Type u} (cs : List SV) (f : (k : Core) → cs = k.uv → Option β) : Option β := match cs, f with
  | [.int .i32 a, .int .i32 b, .int .i32 c, .int .i32 iptr, .int .i32 wptr, .int .i64 pri, .bool busy, .bool err, .bool hoe, .bool halted, .int .i32 f0, .int .i32 f1, .int .i32 b0, .int .i32 b1, .int .i32 t0, .int .i32 t1, .int .i32 k0, .int .i32 k1, .int .i32 ticks, .int .i32 slice, .bool sis, .int .i32 sa, .int .i32 sb, .int .i32 sc, .int .i32 siptr, .int .i32 swptr, .bool serr, .int .i32 sslice, .loc 0 0], f => f ⟨a, b, c, iptr, wptr, pri, busy, err, hoe, halted, f0, f1, b0, b1, t0, t1, k0, k1, ticks, slice, sis, sa, sb, sc, siptr, swptr, serr, sslice⟩ rfl
  | _, _ => none
def shoR (k : Core) (m : Ram) (n : Int) : Core × Int × Ram :=
  bif idleB k k.b then (.zero, 8, m) else bif m.err k.wptr != 0 then (.zero, m.err k.wptr, m)
  else bif (outR k (m.set k.wptr k.a) n k.b k.wptr).2.1 != 0 then ((outR k (m.set k.wptr k.a) n k.b k.wptr).1, (outR k (m.set k.wptr k.a) n k.b k.wptr).2.1, (outR k (m.set k.wptr k.a) n k.b k.wptr).2.2.set k.wptr (m.word k.wptr))
  else outR k (m.set k.wptr k.a) n k.b k.wptr
noncomputable abbrev ctSh : CT := [(f_channel_internal, .pure spInternal), (f_mem_Mem_Word, eWordT), (f_mem_Mem_SetWord, eSetWordT), (f_channel_Out, eOut)]
theorem ctSh_ok : CTok Try.prog ctSh := ⟨ceInternal, con_ok cal_mem_Mem_Word _, con_ok cal_mem_Mem_SetWord _, con_ok cal_channel_Out _, trivial⟩
theorem short_c (k : Core) (m : Ram) (n : Int) (hok : k.ok) (hn : I32 n) : Con Try.prog f_channel_unit_short [.agg k.uv, .s (.int .i32 n)] [mBox m.l.length, mOwn m.l]
    (.ret (.tup [.agg (shoR k m n).1.sv, .s (.int .i64 (shoR k m n).2.1)]) [mBox (shoR k m n).2.2.l.length, mOwn (shoR k m n).2.2.l]) := by
  intro K hK
  unfold shoR at hK
  generalize hx : outR k (m.set k.wptr k.a) n k.b k.wptr = x at hK
  obtain ⟨k', e', m'⟩ := x
  refine enter fn_channel_unit_short rfl nt_channel_unit_short rfl rfl (fun φ w0 β0 F => ?_)
  refine c_run tt_ok ctSh_ok k_channel_unit_short [] 60 (by kernel_rfl) ?_
  refine ⟨fun _ => hok.b, fun h => ?_, fun h => ⟨m, ⟨rfl, rfl, rfl, rfl, hok.wptr⟩, fun h2 => ?_, fun h2 => ⟨m, ⟨rfl, rfl, rfl, rfl, hok.wptr⟩, (m.set k.wptr k.a, k', e', m'), ⟨rfl, rfl, rfl, rfl, ⟨hok, hn, hok.b, hok.wptr⟩, hx⟩, fun h3 => ⟨m', ⟨rfl, rfl, rfl, rfl, hok.wptr⟩, ?_⟩, fun h3 => ?_⟩⟩⟩
  · rw [show idleB k k.b = true from h] at hK
    exact fin_k tt_ok (rs := rs_channel_unit_short) rfl rfl hK [0, 1] rfl rfl rfl rfl rfl rfl
  · rw [show idleB k k.b = false from h, show (m.err k.wptr != 0) = true from h2] at hK
    exact fin_k tt_ok (rs := rs_channel_unit_short) rfl rfl hK [0, 1] rfl rfl rfl rfl rfl rfl
  · rw [show idleB k k.b = false from h, show (m.err k.wptr != 0) = false from h2] at hK
    simp only [cond_false, show (e' != 0) = true from h3, cond_true] at hK
    exact fin_k tt_ok (rs := rs_channel_unit_short) rfl rfl hK [0, 1] rfl rfl rfl rfl rfl rfl
  · rw [show idleB k k.b = false from h, show (m.err k.wptr != 0) = false from h2] at hK
    simp only [cond_false, show (e' != 0) = false from h3] at hK
    exact fin_k tt_ok (rs := rs_channel_unit_short) rfl rfl hK [0, 1] rfl rfl rfl rfl rfl rfl
noncomputable abbrev eShort : Ent := .st (conS (P := Try.prog) (f := f_channel_unit_short) fun cargs σ0 => match cargs, σ0 with
  | [.agg cs, .s (.int .i32 n)], [.blk 94 [.sl 1 0 l l'], .own 5 1 c xs] => withUnit cs fun k hk => some ⟨.ex (Ram × Core × Int × Ram) fun p => .ask (l = p.1.l.length ∧ l' = p.1.l.length ∧ c = p.1.l.length ∧ xs = bytesI p.1.l ∧ (k.ok ∧ I32 n) ∧ shoR k p.1 n = p.2)
      (.ret (.tup [.agg p.2.1.sv, .s (.int .i64 p.2.2.1)]) [mBox p.2.2.2.l.length, mOwn p.2.2.2.l]), fun K h => by
      obtain ⟨⟨m, k', e', m'⟩, ⟨e1, e2, e3, e4, ⟨h1, h3⟩, h2⟩, h⟩ := h
      dsimp only at e1 e2 e3 e4 h2 h
      subst e1; subst e2; subst e3; subst e4; subst hk
      refine short_c k m n h1 h3 K ?_
      rw [h2]; exact h⟩
  | _, _ => none)
def resR (k : Core) (m : Ram) : Core × Int × Ram := bif (begR k m k.a).2 != 0 then (.zero, (begR k m k.a).2, m) else ({ k with a := (begR k m k.a).1 }, 0, m.set k.a NP)
noncomputable abbrev ctRe : CT := [(f_channel_begun, eBegun), (f_mem_Mem_SetWord, eSetWordT)]
theorem ctRe_ok : CTok Try.prog ctRe := ⟨con_ok cal_channel_begun _, con_ok cal_mem_Mem_SetWord _, trivial⟩
theorem resetch_c (k : Core) (m : Ram) (hok : k.ok) : Con Try.prog f_channel_unit_resetch [.agg k.uv] [mBox m.l.length, mOwn m.l]
    (.ret (.tup [.agg (resR k m).1.sv, .s (.int .i64 (resR k m).2.1)]) [mBox (resR k m).2.2.l.length, mOwn (resR k m).2.2.l]) := by
  intro K hK
  unfold resR at hK
  generalize hb : begR k m k.a = b at hK
  obtain ⟨d, e⟩ := b
  refine enter fn_channel_unit_resetch rfl nt_channel_unit_resetch rfl rfl (fun φ w0 β0 F => ?_)
  refine c_run tt_ok ctRe_ok k_channel_unit_resetch [] 60 (by kernel_rfl) ?_
  refine ⟨(m, d, e), ⟨rfl, rfl, rfl, rfl, hok.a, hb⟩, fun h => ?_, fun h => ⟨m, ⟨rfl, rfl, rfl, rfl, hok.a⟩, ?_⟩⟩
  · simp only [show (e != 0) = true from h, cond_true] at hK
    exact fin_k tt_ok (rs := rs_channel_unit_resetch) rfl rfl hK [0, 1] rfl rfl rfl rfl rfl rfl
  · simp only [show (e != 0) = false from h, cond_false] at hK
    exact fin_k tt_ok (rs := rs_channel_unit_resetch) rfl rfl hK [0, 1] rfl rfl rfl rfl rfl rfl
noncomputable abbrev eResetch : Ent := .st (conS (P := Try.prog) (f := f_channel_unit_resetch) fun cargs σ0 => match cargs, σ0 with
  | [.agg cs], [.blk 94 [.sl 1 0 l l'], .own 5 1 c xs] => withUnit cs fun k hk => some ⟨.ex (Ram × Core × Int × Ram) fun p => .ask (l = p.1.l.length ∧ l' = p.1.l.length ∧ c = p.1.l.length ∧ xs = bytesI p.1.l ∧ k.ok ∧ resR k p.1 = p.2)
      (.ret (.tup [.agg p.2.1.sv, .s (.int .i64 p.2.2.1)]) [mBox p.2.2.2.l.length, mOwn p.2.2.2.l]), fun K h => by
      obtain ⟨⟨m, k', e', m'⟩, ⟨e1, e2, e3, e4, h1, h2⟩, h⟩ := h
      dsimp only at e1 e2 e3 e4 h2 h
      subst e1; subst e2; subst e3; subst e4; subst hk
      refine resetch_c k m h1 K ?_
      rw [h2]; exact h⟩
  | _, _ => none)
end Go.Proofs

namespace Go.Proofs
open Go Go.Sx
set_option maxRecDepth 10000
noncomputable abbrev ctMi : CT := [(f_channel_unit_operations, in_channel_unit_operations [])]
theorem ctMi_ok : CTok Try.prog ctMi := ⟨in_channel_unit_operations_ok (ct := []) trivial, trivial⟩
def opB (o : Int) : Bool := bif bif bif bif o == 7 then true else o == 11 then true else o == 14 then true else o == 15 then true else o == 18
def mineB (fn o : Int) : Bool := bif fn == 15 then opB o else false
theorem lookE_none {a b c d e : TV} {o : Int} (h : opB o = false) : lookE [(.i32, 7, a), (.i32, 11, b), (.i32, 14, c), (.i32, 15, d), (.i32, 18, e)] o = none := by
  unfold opB at h
  cases h1 : (o == 7) <;> cases h2 : (o == 11) <;> cases h3 : (o == 14) <;> cases h4 : (o == 15) <;> cases h5 : (o == 18) <;> simp only [h1, h2, h3, h4, h5, cond_true, cond_false] at h <;> try (cases h; done)
  simp only [lookE, h1, h2, h3, h4, h5]
theorem opB_cases {o : Int} (h : opB o = true) : o = 7 ∨ o = 11 ∨ o = 14 ∨ o = 15 ∨ o = 18 := by
  unfold opB at h
  cases h1 : (o == 7) <;> cases h2 : (o == 11) <;> cases h3 : (o == 14) <;> cases h4 : (o == 15) <;> cases h5 : (o == 18) <;> simp only [h1, h2, h3, h4, h5, cond_true, cond_false] at h <;> simp_all
theorem Mine_c (fn o : Int) : Con Try.prog f_channel_Mine [.agg [.int .u8 fn, .int .i32 o]] [] (.ret (.t (.s (.bool (mineB fn o)))) []) := by
  intro K hK
  refine enter fn_channel_Mine rfl nt_channel_Mine rfl rfl (fun φ w0 β0 F => ?_)
  refine c_run tt_ok ctMi_ok k_channel_Mine [] 60 (by kernel_rfl) ?_
  refine c_ways tt_ok ctMi_ok k_channel_Mine rfl rfl ?_
  cases hB : opB o with
  | true =>
    rcases opB_cases hB with rfl | rfl | rfl | rfl | rfl
    all_goals
      repeat' (first | exact trivial | (refine ⟨rfl, ?_⟩) | (refine ⟨_, rfl, ?_⟩) | (refine And.intro ?_ ?_))
      all_goals
        refine e_run tt_ok ctMi_ok k_channel_Mine [] 60 (by kernel_rfl) ?_
        refine fin_k tt_ok (rs := rs_channel_Mine) rfl rfl hK [] (t1b ?_) rfl rfl rfl rfl rfl
        unfold mineB
        cases fn == 15 <;> rfl
  | false =>
    repeat' (first | exact trivial | (refine ⟨rfl, ?_⟩) | (refine ⟨none, lookE_none hB, ?_⟩) | (refine And.intro ?_ ?_))
    all_goals
      refine e_run tt_ok ctMi_ok k_channel_Mine [] 60 (by kernel_rfl) ?_
      refine fin_k tt_ok (rs := rs_channel_Mine) rfl rfl hK [] (t1b ?_) rfl rfl rfl rfl rfl
      unfold mineB
      rw [hB]
      cases fn == 15 <;> rfl
def spMine : List TV → Option (Prop × FV)
  | [.agg [.int .u8 fn, .int .i32 o]] => some (True, .t (.s (.bool (mineB fn o))))
  | _ => none
theorem ceMine : CEok Try.prog f_channel_Mine spMine := ⟨cal_channel_Mine, fun args p v h hp => by
  unfold spMine at h; split at h
  · cases h; exact (Mine_c _ _).pure
  · cases h⟩
end Go.Proofs

namespace Go.Proofs
open Go Go.Sx
set_option maxRecDepth 10000
noncomputable abbrev ctUn : CT := [(f_channel_In, eIn), (f_channel_Out, eOut), (f_channel_unit_short, eShort)]
theorem ctUn_ok : CTok Try.prog ctUn := ⟨con_ok cal_channel_In _, con_ok cal_channel_Out _, con_ok cal_channel_unit_short _, trivial⟩
def opR (k : Core) (m : Ram) (o : Int) : Core × Int × Ram :=
  bif o == 7 then inR k m k.a k.b k.c else bif o == 11 then outR k m k.a k.b k.c else bif o == 14 then shoR k m 1 else bif o == 15 then shoR k m 4 else resR k m
def execR (k : Core) (m : Ram) (fn o : Int) : Core × Int × Ram := bif priBad k then (.zero, 2, m) else bif !mineB fn o then (.zero, 280, m) else opR k m o
noncomputable abbrev ctEx : CT := [(f_mem_Mem_Size, eSizeT), (f_channel_Mine, .pure spMine), (f_channel_unit_operations, in_channel_unit_operations []), (f_channel_unit_in, in_channel_unit_in ctUn), (f_channel_unit_out, in_channel_unit_out ctUn), (f_channel_unit_outbyte, in_channel_unit_outbyte ctUn), (f_channel_unit_outword, in_channel_unit_outword ctUn), (f_channel_unit_resetch, eResetch)]
theorem ctEx_ok : CTok Try.prog ctEx := ⟨con_ok cal_mem_Mem_Size _, ceMine, in_channel_unit_operations_ok (ct := []) trivial, in_channel_unit_in_ok ctUn_ok, in_channel_unit_out_ok ctUn_ok, in_channel_unit_outbyte_ok ctUn_ok, in_channel_unit_outword_ok ctUn_ok, con_ok cal_channel_unit_resetch _, trivial⟩
set_option maxHeartbeats 2000000 in
theorem Exec_c (k : Core) (m : Ram) (fn o : Int) (hok : k.ok) : Con Try.prog f_channel_Exec [.agg k.sv, .s (.loc 0 0), .agg [.int .u8 fn, .int .i32 o]] [mBox m.l.length, mOwn m.l]
    (.ret (.tup [.agg (execR k m fn o).1.sv, .s (.int .i64 (execR k m fn o).2.1)]) [mBox (execR k m fn o).2.2.l.length, mOwn (execR k m fn o).2.2.l]) := by
  intro K hK
  refine enter fn_channel_Exec rfl nt_channel_Exec rfl rfl (fun φ w0 β0 F => ?_)
  refine c_run tt_ok ctEx_ok k_channel_Exec [] 60 (by kernel_rfl) ?_
  refine ⟨fun h => ?_, fun _ => ⟨fun h => ?_, fun h => ⟨trivial, fun h2 => ?_, fun h2 => ?_⟩⟩⟩
  · exfalso; have h0 := m.lo; have := of_decide_eq_true h; omega
  · rw [show execR k m fn o = (.zero, 2, m) by unfold execR; rw [show priBad k = true from h]; rfl] at hK
    exact fin_k tt_ok (rs := rs_channel_Exec) rfl rfl hK [0, 1] rfl rfl rfl rfl rfl rfl
  · rw [show execR k m fn o = (.zero, 280, m) by unfold execR; rw [show priBad k = false from h, show (!mineB fn o) = true from h2]; rfl] at hK
    exact fin_k tt_ok (rs := rs_channel_Exec) rfl rfl hK [0, 1] rfl rfl rfl rfl rfl rfl
  · rw [show execR k m fn o = opR k m o by unfold execR; rw [show priBad k = false from h, show (!mineB fn o) = false from h2]; rfl] at hK
    have hB : opB o = true := by
      unfold mineB at h2
      cases hB : opB o
      · rw [hB] at h2; cases hf : (fn == 15) <;> rw [hf] at h2 <;> exact absurd h2 (by decide)
      · rfl
    clear h2
    refine c_ways tt_ok ctEx_ok k_channel_Exec rfl rfl ?_
    rcases opB_cases hB with rfl | rfl | rfl | rfl | rfl
    · replace hK : Out.wp K (.ret (.tup [.agg (inR k m k.a k.b k.c).1.sv, .s (.int .i64 (inR k m k.a k.b k.c).2.1)]) [mBox (inR k m k.a k.b k.c).2.2.l.length, mOwn (inR k m k.a k.b k.c).2.2.l]) := hK
      generalize hx : inR k m k.a k.b k.c = x at hK
      refine ⟨⟨⟨rfl, rfl, rfl, rfl, rfl, _, rfl, (m, x), ⟨rfl, rfl, rfl, rfl, ⟨hok, hok.a, hok.b, hok.c⟩, hx⟩, ?_⟩, ⟨rfl, rfl, rfl, rfl, rfl, _, rfl, (m, x), ⟨rfl, rfl, rfl, rfl, ⟨hok, hok.a, hok.b, hok.c⟩, hx⟩, ?_⟩⟩, ⟨rfl, rfl, rfl, rfl, rfl, _, rfl, (m, x), ⟨rfl, rfl, rfl, rfl, ⟨hok, hok.a, hok.b, hok.c⟩, hx⟩, ?_⟩⟩
      all_goals
        refine e_run tt_ok ctEx_ok k_channel_Exec [] 60 (by kernel_rfl) ?_
        exact fin_k tt_ok (rs := rs_channel_Exec) rfl rfl hK [0, 1] rfl rfl rfl rfl rfl rfl
    · replace hK : Out.wp K (.ret (.tup [.agg (outR k m k.a k.b k.c).1.sv, .s (.int .i64 (outR k m k.a k.b k.c).2.1)]) [mBox (outR k m k.a k.b k.c).2.2.l.length, mOwn (outR k m k.a k.b k.c).2.2.l]) := hK
      generalize hx : outR k m k.a k.b k.c = x at hK
      refine ⟨⟨⟨rfl, rfl, rfl, rfl, rfl, _, rfl, (m, x), ⟨rfl, rfl, rfl, rfl, ⟨hok, hok.a, hok.b, hok.c⟩, hx⟩, ?_⟩, ⟨rfl, rfl, rfl, rfl, rfl, _, rfl, (m, x), ⟨rfl, rfl, rfl, rfl, ⟨hok, hok.a, hok.b, hok.c⟩, hx⟩, ?_⟩⟩, ⟨rfl, rfl, rfl, rfl, rfl, _, rfl, (m, x), ⟨rfl, rfl, rfl, rfl, ⟨hok, hok.a, hok.b, hok.c⟩, hx⟩, ?_⟩⟩
      all_goals
        refine e_run tt_ok ctEx_ok k_channel_Exec [] 60 (by kernel_rfl) ?_
        exact fin_k tt_ok (rs := rs_channel_Exec) rfl rfl hK [0, 1] rfl rfl rfl rfl rfl rfl
    · replace hK : Out.wp K (.ret (.tup [.agg (shoR k m 1).1.sv, .s (.int .i64 (shoR k m 1).2.1)]) [mBox (shoR k m 1).2.2.l.length, mOwn (shoR k m 1).2.2.l]) := hK
      generalize hx : shoR k m 1 = x at hK
      have h1 : I32 1 := by unfold I32; omega
      refine ⟨⟨⟨rfl, rfl, rfl, rfl, rfl, _, rfl, (m, x), ⟨rfl, rfl, rfl, rfl, ⟨hok, h1⟩, hx⟩, ?_⟩, ⟨rfl, rfl, rfl, rfl, rfl, _, rfl, (m, x), ⟨rfl, rfl, rfl, rfl, ⟨hok, h1⟩, hx⟩, ?_⟩⟩, ⟨rfl, rfl, rfl, rfl, rfl, _, rfl, (m, x), ⟨rfl, rfl, rfl, rfl, ⟨hok, h1⟩, hx⟩, ?_⟩⟩
      all_goals
        refine e_run tt_ok ctEx_ok k_channel_Exec [] 60 (by kernel_rfl) ?_
        exact fin_k tt_ok (rs := rs_channel_Exec) rfl rfl hK [0, 1] rfl rfl rfl rfl rfl rfl
    · replace hK : Out.wp K (.ret (.tup [.agg (shoR k m 4).1.sv, .s (.int .i64 (shoR k m 4).2.1)]) [mBox (shoR k m 4).2.2.l.length, mOwn (shoR k m 4).2.2.l]) := hK
      generalize hx : shoR k m 4 = x at hK
      have h1 : I32 4 := by unfold I32; omega
      refine ⟨⟨⟨rfl, rfl, rfl, rfl, rfl, _, rfl, (m, x), ⟨rfl, rfl, rfl, rfl, ⟨hok, h1⟩, hx⟩, ?_⟩, ⟨rfl, rfl, rfl, rfl, rfl, _, rfl, (m, x), ⟨rfl, rfl, rfl, rfl, ⟨hok, h1⟩, hx⟩, ?_⟩⟩, ⟨rfl, rfl, rfl, rfl, rfl, _, rfl, (m, x), ⟨rfl, rfl, rfl, rfl, ⟨hok, h1⟩, hx⟩, ?_⟩⟩
      all_goals
        refine e_run tt_ok ctEx_ok k_channel_Exec [] 60 (by kernel_rfl) ?_
        exact fin_k tt_ok (rs := rs_channel_Exec) rfl rfl hK [0, 1] rfl rfl rfl rfl rfl rfl
    · replace hK : Out.wp K (.ret (.tup [.agg (resR k m).1.sv, .s (.int .i64 (resR k m).2.1)]) [mBox (resR k m).2.2.l.length, mOwn (resR k m).2.2.l]) := hK
      generalize hx : resR k m = x at hK
      refine ⟨⟨⟨rfl, rfl, rfl, rfl, rfl, _, rfl, (m, x), ⟨rfl, rfl, rfl, rfl, hok, hx⟩, ?_⟩, ⟨rfl, rfl, rfl, rfl, rfl, _, rfl, (m, x), ⟨rfl, rfl, rfl, rfl, hok, hx⟩, ?_⟩⟩, ⟨rfl, rfl, rfl, rfl, rfl, _, rfl, (m, x), ⟨rfl, rfl, rfl, rfl, hok, hx⟩, ?_⟩⟩
      all_goals
        refine e_run tt_ok ctEx_ok k_channel_Exec [] 60 (by kernel_rfl) ?_
        exact fin_k tt_ok (rs := rs_channel_Exec) rfl rfl hK [0, 1] rfl rfl rfl rfl rfl rfl
noncomputable abbrev eExec : Ent := .st (conS (P := Try.prog) (f := f_channel_Exec) fun cargs σ0 => match cargs, σ0 with
  | [.agg cs, .s (.loc 0 0), .agg [.int .u8 fn, .int .i32 o]], [.blk 94 [.sl 1 0 n n'], .own 5 1 c xs] => withCore cs fun k hk => some ⟨.ex (Ram × Core × Int × Ram) fun p => .ask (n = p.1.l.length ∧ n' = p.1.l.length ∧ c = p.1.l.length ∧ xs = bytesI p.1.l ∧ k.ok ∧ execR k p.1 fn o = p.2)
      (.ret (.tup [.agg p.2.1.sv, .s (.int .i64 p.2.2.1)]) [mBox p.2.2.2.l.length, mOwn p.2.2.2.l]), fun K h => by
      obtain ⟨⟨m, k', e', m'⟩, ⟨e1, e2, e3, e4, h1, h2⟩, h⟩ := h
      dsimp only at e1 e2 e3 e4 h2 h
      subst e1; subst e2; subst e3; subst e4; subst hk
      refine Exec_c k m fn o h1 K ?_
      rw [h2]; exact h⟩
  | _, _ => none)
end Go.Proofs

namespace Go.Proofs
open Go Go.Sx
set_option maxRecDepth 10000
def i32B (n : Int) : Bool := decide (-2147483648 ≤ n) && decide (n ≤ 2147483647)
theorem i32B_ok {n : Int} (h : i32B n = true) : I32 n := by unfold i32B at h; unfold I32; simp at h; omega
def Core.okB (k : Core) : Bool := i32B k.a && i32B k.b && i32B k.c && i32B k.iptr && i32B k.wptr && (decide (-9223372036854775808 ≤ k.pri) && decide (k.pri ≤ 9223372036854775807)) && i32B k.f0 && i32B k.f1 && i32B k.b0 && i32B k.b1 && i32B k.t0 && i32B k.t1 && i32B k.k0 && i32B k.k1 && i32B k.ticks && i32B k.slice && i32B k.sa && i32B k.sb && i32B k.sc && i32B k.siptr && i32B k.swptr && i32B k.sslice
theorem okB_ok {k : Core} (h : k.okB = true) : k.ok := by
  unfold Core.okB at h
  simp only [Bool.and_eq_true] at h
  obtain ⟨⟨⟨⟨⟨⟨⟨⟨⟨⟨⟨⟨⟨⟨⟨⟨⟨⟨⟨⟨⟨h1, h2⟩, h3⟩, h4⟩, h5⟩, h6⟩, h7⟩, h8⟩, h9⟩, h10⟩, h11⟩, h12⟩, h13⟩, h14⟩, h15⟩, h16⟩, h17⟩, h18⟩, h19⟩, h20⟩, h21⟩, h22⟩ := h
  have h6' := of_decide_eq_true h6.1
  have h6'' := of_decide_eq_true h6.2
  exact ⟨i32B_ok h1, i32B_ok h2, i32B_ok h3, i32B_ok h4, i32B_ok h5, ⟨h6', h6''⟩, i32B_ok h7, i32B_ok h8, i32B_ok h9, i32B_ok h10, i32B_ok h11, i32B_ok h12, i32B_ok h13, i32B_ok h14, i32B_ok h15, i32B_ok h16, i32B_ok h17, i32B_ok h18, i32B_ok h19, i32B_ok h20, i32B_ok h21, i32B_ok h22⟩
def runK (w p i : Int) : Core := ⟨11, 12, 13, i, w, p, true, false, false, false, -2147483648, -2147483648, -2147483648, -2147483648, -2147483648, -2147483648, 0, 0, 0, 0, false, 0, 0, 0, 0, 0, false, 0⟩
theorem runs_c (w p i : Int) : Con Try.prog f_l30_runs [.s (.int .i32 w), .s (.int .i64 p), .s (.int .i32 i)] [] (.ret (.t (.agg (runK w p i).sv)) []) := by
  intro K hK
  refine enter fn_l30_runs rfl nt_l30_runs rfl rfl (fun φ w0 β0 F => ?_)
  refine c_run tt_ok (ct := []) trivial k_l30_runs [] 60 (by kernel_rfl) ?_
  exact fin_k tt_ok (rs := rs_l30_runs) rfl rfl hK [] rfl rfl rfl rfl rfl rfl
def spRuns : List TV → Option (Prop × FV)
  | [.s (.int .i32 w), .s (.int .i64 p), .s (.int .i32 i)] => some (True, .t (.agg (runK w p i).sv))
  | _ => none
theorem ceRuns : CEok Try.prog f_l30_runs spRuns := ⟨cal_l30_runs, fun args p v h hp => by
  unfold spRuns at h; split at h
  · cases h; exact (runs_c _ _ _).pure
  · cases h⟩
def Core.pass (k : Core) (w p i : Int) : Core := { k with wptr := w, pri := p, iptr := i, busy := true, a := 11, b := 12, c := 13 }
theorem passes_c (k : Core) (w p i : Int) : Con Try.prog f_l30_passes [.agg k.sv, .s (.int .i32 w), .s (.int .i64 p), .s (.int .i32 i)] [] (.ret (.t (.agg (k.pass w p i).sv)) []) := by
  intro K hK
  refine enter fn_l30_passes rfl nt_l30_passes rfl rfl (fun φ w0 β0 F => ?_)
  refine c_run tt_ok (ct := []) trivial k_l30_passes [] 60 (by kernel_rfl) ?_
  exact fin_k tt_ok (rs := rs_l30_passes) rfl rfl hK [] rfl rfl rfl rfl rfl rfl
def spPasses : List TV → Option (Prop × FV)
  | [.agg cs, .s (.int .i32 w), .s (.int .i64 p), .s (.int .i32 i)] => withCore cs fun k _ => some (True, .t (.agg (k.pass w p i).sv))
  | _ => none
theorem cePasses : CEok Try.prog f_l30_passes spPasses := ⟨cal_l30_passes, fun args p v h hp => by
  unfold spPasses at h; split at h
  · obtain ⟨k, hk, h⟩ := withCore_some h
    cases h; subst hk; exact (passes_c _ _ _ _).pure
  · cases h⟩
noncomputable abbrev ctLW : CT := [(f_mem_Mem_Word, eWordT)]
theorem ctLW_ok : CTok Try.prog ctLW := ⟨con_ok cal_mem_Mem_Word _, trivial⟩
theorem lword_c (m : Ram) (a : Int) (ha : I32 a) : Con Try.prog f_l30_word [.s (.loc 0 0), .s (.int .i32 a)] [mBox m.l.length, mOwn m.l] (.ret (.t (.s (.int .i32 (m.word a)))) [mBox m.l.length, mOwn m.l]) := by
  intro K hK
  refine enter fn_l30_word rfl nt_l30_word rfl rfl (fun φ w0 β0 F => ?_)
  refine c_run tt_ok ctLW_ok k_l30_word [] 60 (by kernel_rfl) ?_
  refine ⟨m, ⟨rfl, rfl, rfl, rfl, ha⟩, ?_⟩
  exact fin_k tt_ok (rs := rs_l30_word) rfl rfl hK [0, 1] rfl rfl rfl rfl rfl rfl
noncomputable abbrev eLword : Ent := .st (conS (P := Try.prog) (f := f_l30_word) fun cargs σ0 => match cargs, σ0 with
  | [.s (.loc 0 0), .s (.int .i32 a)], [.blk 94 [.sl 1 0 n n'], .own 5 1 c xs] => some ⟨.ex Ram fun m => .ask (n = m.l.length ∧ n' = m.l.length ∧ c = m.l.length ∧ xs = bytesI m.l ∧ I32 a)
      (.ret (.t (.s (.int .i32 (m.word a)))) [mBox m.l.length, mOwn m.l]), fun K h => by
      obtain ⟨m, ⟨e1, e2, e3, e4, h1⟩, h⟩ := h
      subst e1; subst e2; subst e3; subst e4
      exact lword_c m a h1 K h⟩
  | _, _ => none)
def Ram.z : Ram := ⟨List.replicate 1024 0, by simp, by simp, by simp, by intro b hb; rw [List.mem_replicate] at hb; omega⟩
noncomputable abbrev eNew : Ent := .st (conS (P := Try.prog) (f := f_mem_New) fun cargs σ0 => match cargs, σ0 with
  | [.s (.int .i64 n)], [] => some ⟨.br (mayM n) (.ret (.tup [.s (.loc 0 0), .s (.int .i64 0)]) [mBox n.toNat, .own 5 1 n.toNat (bytesI (List.replicate n.toNat 0))]) (.ret (.tup [.s (.raw (.pointer none)), .s (.int .i64 2)]) []), fun K h => New_c n K h⟩
  | _, _ => none)
noncomputable abbrev ctNw : CT := [(f_mem_New, eNew), (f_mem_Mem_SetWord, eSetWordT)]
theorem ctNw_ok : CTok Try.prog ctNw := ⟨con_ok cal_mem_New _, con_ok cal_mem_Mem_SetWord _, trivial⟩
def line : Int := -2147483548
def m0 : Ram := Ram.z.set line NP
theorem fresh_c : Con Try.prog f_l30_fresh [] [] (.ret (.t (.s (.loc 0 0))) [mBox m0.l.length, mOwn m0.l]) := by
  intro K hK
  refine enter fn_l30_fresh rfl nt_l30_fresh rfl rfl (fun φ w0 β0 F => ?_)
  refine c_run tt_ok ctNw_ok k_l30_fresh [] 60 (by kernel_rfl) ?_
  refine ⟨fun _ => ⟨fun h => absurd h (by decide), fun _ => ?_⟩, fun h => absurd h (by decide)⟩
  refine ⟨Ram.z, ⟨by decide +kernel, by decide +kernel, by decide +kernel, rfl, i32B_ok (by decide +kernel)⟩, ?_⟩
  exact fin_k tt_ok (rs := rs_l30_fresh) rfl rfl hK [0, 1] rfl rfl rfl rfl rfl rfl
noncomputable abbrev eFresh : Ent := .st (conS (P := Try.prog) (f := f_l30_fresh) fun cargs σ0 => match cargs, σ0 with
  | [], [] => some ⟨.ret (.t (.s (.loc 0 0))) [mBox m0.l.length, mOwn m0.l], fun K h => fresh_c K h⟩
  | _, _ => none)
end Go.Proofs

namespace Go.Proofs
open Go Go.Sx
set_option maxRecDepth 10000
def aw1 : Ram := m0.set (-2147483248) 77
def ak1 : Core := ⟨0, 0, 0, 0, 0, 0, false, false, false, false, -2147483648, -2147483648, -2147483648, -2147483648, -2147483648, -2147483648, 0, 0, 0, 0, false, 0, 0, 0, 0, 0, false, 0⟩
def aw2 : Ram := (outR (runK (-2147483448) 1 7) aw1 4 (-2147483548) (-2147483248)).2.2
theorem ax1 : outR (runK (-2147483448) 1 7) aw1 4 (-2147483548) (-2147483248) = (ak1, 0, aw2) := by kernel_rfl
def ak2 : Core := ⟨0, 0, 0, 9, -2147483348, 1, true, false, false, false, -2147483648, -2147483448, -2147483648, -2147483448, -2147483648, -2147483648, 0, 0, 0, 0, false, 0, 0, 0, 0, 0, false, 0⟩
def aw3 : Ram := (inR (ak1.pass (-2147483348) 1 9) aw2 4 (-2147483548) (-2147483048)).2.2
theorem ax2 : inR (ak1.pass (-2147483348) 1 9) aw2 4 (-2147483548) (-2147483048) = (ak2, 0, aw3) := by kernel_rfl
theorem ax3 : inR (runK (-2147483348) 1 0) aw3 4 (-2147483632) (-2147483048) = (.zero, 8, aw3) := by kernel_rfl
theorem ax4 : inR ak2 aw3 4 (-2147482624) (-2147483048) = (.zero, 4, aw3) := by kernel_rfl
def ak3 : Core := ⟨0, 0, 0, 9, -2147483348, 1, false, false, false, false, -2147483648, -2147483448, -2147483648, -2147483448, -2147483648, -2147483648, 0, 0, 0, 0, false, 0, 0, 0, 0, 0, false, 0⟩
theorem ax5 : inR ak3 aw3 4 (-2147483548) (-2147483048) = (.zero, 8, aw3) := by kernel_rfl
theorem ax6 : execR ak3 aw3 15 5 = (.zero, 280, aw3) := by kernel_rfl
theorem ak1_ok : ak1.ok := okB_ok (by decide +kernel)
theorem ak2_ok : ak2.ok := okB_ok (by decide +kernel)
theorem ak3_ok : ak3.ok := okB_ok (by decide +kernel)
noncomputable abbrev ctAw : CT := [(f_l30_fresh, eFresh), (f_mem_Mem_SetWord, eSetWordT), (f_l30_runs, .pure spRuns), (f_l30_passes, .pure spPasses), (f_channel_Out, eOut), (f_channel_In, eIn), (f_channel_Exec, eExec), (f_l30_word, eLword)]
theorem ctAw_ok : CTok Try.prog ctAw := ⟨con_ok cal_l30_fresh _, con_ok cal_mem_Mem_SetWord _, ceRuns, cePasses, con_ok cal_channel_Out _, con_ok cal_channel_In _, con_ok cal_channel_Exec _, con_ok cal_l30_word _, trivial⟩
theorem awake_c : Con Try.prog f_l30_awake [] [] (.ret (.t (.s (.bool true))) []) := by
  intro K hK
  refine enter fn_l30_awake rfl nt_l30_awake rfl rfl (fun φ w0 β0 F => ?_)
  refine c_run tt_ok ctAw_ok k_l30_awake [] 60 (by kernel_rfl) ?_
  refine ⟨m0, ⟨rfl, rfl, rfl, rfl, i32B_ok (by decide +kernel)⟩, ?_⟩
  refine ⟨trivial, (aw1, ak1, 0, aw2), ⟨rfl, rfl, rfl, rfl, ⟨okB_ok (by decide +kernel), i32B_ok (by decide +kernel), i32B_ok (by decide +kernel), i32B_ok (by decide +kernel)⟩, ax1⟩, ?_⟩
  repeat (first | (refine ⟨fun _ => ?_, fun h => absurd h (by decide +kernel)⟩) | (refine ⟨aw2, ⟨rfl, rfl, rfl, rfl, i32B_ok (by decide +kernel)⟩, ?_⟩))
  have hI : ∀ n, i32B n = true → I32 n := fun n h => i32B_ok h
  refine ⟨trivial, (aw2, ak2, 0, aw3), ⟨rfl, rfl, rfl, rfl, ⟨okB_ok (by decide +kernel), hI _ (by decide +kernel), hI _ (by decide +kernel), hI _ (by decide +kernel)⟩, ax2⟩, ?_⟩
  repeat (first | (refine ⟨fun _ => ?_, fun h => absurd h (by decide +kernel)⟩) | (refine ⟨aw3, ⟨rfl, rfl, rfl, rfl, hI _ (by decide +kernel)⟩, ?_⟩))
  refine ⟨trivial, (aw3, .zero, 8, aw3), ⟨rfl, rfl, rfl, rfl, ⟨okB_ok (by decide +kernel), hI _ (by decide +kernel), hI _ (by decide +kernel), hI _ (by decide +kernel)⟩, ax3⟩, ?_⟩
  refine ⟨(aw3, .zero, 4, aw3), ⟨rfl, rfl, rfl, rfl, ⟨ak2_ok, hI _ (by decide +kernel), hI _ (by decide +kernel), hI _ (by decide +kernel)⟩, ax4⟩, ?_⟩
  refine ⟨(aw3, .zero, 8, aw3), ⟨rfl, rfl, rfl, rfl, ⟨ak3_ok, hI _ (by decide +kernel), hI _ (by decide +kernel), hI _ (by decide +kernel)⟩, ax5⟩, ?_⟩
  refine ⟨(aw3, .zero, 280, aw3), ⟨rfl, rfl, rfl, rfl, ak3_ok, ax6⟩, ?_⟩
  refine fin_k tt_ok (rs := rs_l30_awake) rfl rfl hK [] ?_ rfl rfl rfl rfl rfl
  refine t1b ?_
  decide +kernel
def spAwake : List TV → Option (Prop × FV)
  | [] => some (True, .t (.s (.bool true)))
  | _ => none
theorem ceAwake : CEok Try.prog f_l30_awake spAwake := ⟨cal_l30_awake, fun args p v h hp => by
  unfold spAwake at h; split at h
  · cases h; exact awake_c.pure
  · cases h⟩
end Go.Proofs

namespace Go.Proofs
open Go Go.Sx
set_option maxRecDepth 10000
theorem Clone_c (l : List Int) (cap : Nat) (hl : l.length ≤ cap) (hm : cap ≤ 140737488355328) : Con Try.prog f_bytes_Clone [.s (.sl 0 0 l.length cap)] [.view (bytesI l)]
    (.all Nat (fun c => l.length ≤ c) fun c => .ret (.t (.s (.sl 1 0 l.length c))) [.view (bytesI l), .own 5 1 c (bytesI l)]) := by
  intro K hK
  refine enter fn_bytes_Clone rfl nt_bytes_Clone rfl rfl (fun φ w0 β0 F => ?_)
  refine c_run tt_ok (ct := []) trivial k_bytes_Clone [] 60 (by kernel_rfl) ?_
  intro b hb
  refine ⟨fun h => ?_, fun h => ?_⟩
  · have e : l = [] := by
      have := hb h
      cases l with
      | nil => rfl
      | cons x l => cases this
    subst e
    refine WpE.into (nilSlot 2 5 1 rfl) ?_
    refine fin_k tt_ok (rs := rs_bytes_Clone) rfl rfl (hK 0 (Nat.le_refl _)) [0, 1] rfl rfl rfl rfl rfl rfl
  · refine ⟨⟨rfl, rfl, by simp, one_seg (bytesI_one _), by simp only [maxLen]; omega, by omega⟩, fun c h1 h2 => ?_⟩
    refine fin_k tt_ok (rs := rs_bytes_Clone) rfl rfl (hK c (by omega)) [0, 2] ?_ ?_ rfl rfl rfl rfl
    · simp [packF, FV.rn, TV.rn, SV.rn]
    · rw [seg_bytesI, List.drop_zero, Nat.mul_one, List.take_length]; rfl
theorem Equal_o (a b : List Int) (ca cb : Nat) (ha : ∀ x ∈ a, 0 ≤ x ∧ x < 256) (hb : ∀ x ∈ b, 0 ≤ x ∧ x < 256) : Con Try.prog f_bytes_Equal [.s (.sl 0 0 a.length ca), .s (.sl 1 0 b.length cb)] [.own 5 1 ca (bytesI a), .view (bytesI b)]
    (.ret (.t (.s (.bool (decide (a = b))))) [.own 5 1 ca (bytesI a), .view (bytesI b)]) := by
  intro K hK
  refine enter fn_bytes_Equal rfl nt_bytes_Equal rfl rfl (fun φ w0 β0 F => ?_)
  refine c_run tt_ok (ct := []) trivial k_bytes_Equal [] 60 (by kernel_rfl) ?_
  refine ⟨a, ⟨by rw [seg_bytesI]; simp [bytesI], rfl⟩, b, ⟨by rw [seg_bytesI]; simp [bytesI], rfl⟩, ?_⟩
  refine fin_k tt_ok (rs := rs_bytes_Equal) rfl rfl hK [0, 1] (t1b ?_) rfl rfl rfl rfl rfl
  rw [Bool.eq_iff_iff, beq_iff_eq, decide_eq_true_eq]
  constructor
  · intro h
    have inv : ∀ l : List Int, (∀ x ∈ l, 0 ≤ x ∧ x < 256) → (l.map fun n => UInt8.ofNat n.toNat).map (fun u => (u.toNat : Int)) = l := by
      intro l hl
      rw [List.map_map]
      conv => rhs; rw [← List.map_id' l]
      refine List.map_congr_left fun x hx => ?_
      have := hl x hx
      simp only [Function.comp, UInt8.toNat_ofNat']
      omega
    rw [← inv a ha, ← inv b hb, h]
  · rintro rfl; rfl
noncomputable abbrev eClone : Ent := .st (conS (P := Try.prog) (f := f_bytes_Clone) fun cargs σ0 => match cargs, σ0 with
  | [.s (.sl 0 0 n cap)], [.view xs] => some ⟨.ex (List Int) fun l => .ask (xs = bytesI l ∧ n = l.length ∧ l.length ≤ cap ∧ cap ≤ 140737488355328)
      (.all Nat (fun c => l.length ≤ c) fun c => .ret (.t (.s (.sl 1 0 l.length c))) [.view (bytesI l), .own 5 1 c (bytesI l)]), fun K h => by
      obtain ⟨l, ⟨e1, e2, h1, h2⟩, h⟩ := h
      subst e1; subst e2
      exact Clone_c l cap h1 h2 K h⟩
  | _, _ => none)
noncomputable abbrev ctMe : CT := [(f_bytes_Clone, eClone), (f_mem_From, eFromO)]
theorem ctMe_ok : CTok Try.prog ctMe := ⟨con_ok cal_bytes_Clone _, con_ok cal_mem_From _, trivial⟩
theorem memory_c (l : List Int) (cap : Nat) (hl : l.length ≤ cap) (hm : cap ≤ 140737488355328) : Con Try.prog f_l30_memory [.s (.sl 0 0 l.length cap)] [.view (bytesI l)]
    (.br (mayM l.length) (.ret (.tup [.s (.loc 1 0), .s (.bool true)]) [.view (bytesI l), .blk 94 [.sl 2 0 l.length l.length], mOwn l])
      (.ret (.tup [.s (.raw (.pointer none)), .s (.bool false)]) [.view (bytesI l)])) := by
  intro K ⟨hK1, hK2⟩
  refine enter fn_l30_memory rfl nt_l30_memory rfl rfl (fun φ w0 β0 F => ?_)
  refine c_run tt_ok ctMe_ok k_l30_memory [] 60 (by kernel_rfl) ?_
  refine ⟨l, ⟨rfl, rfl, hl, hm⟩, fun c hc => ⟨l, ⟨rfl, rfl, rfl⟩, fun h => ?_, fun h => ?_⟩⟩
  · exact fin_k tt_ok (rs := rs_l30_memory) rfl rfl (hK1 h) [0, 2, 3] rfl rfl rfl rfl rfl rfl
  · exact fin_k tt_ok (rs := rs_l30_memory) rfl rfl (hK2 h) [0] rfl rfl rfl rfl rfl rfl
noncomputable abbrev eMemory : Ent := .st (conS (P := Try.prog) (f := f_l30_memory) fun cargs σ0 => match cargs, σ0 with
  | [.s (.sl 0 0 n cap)], [.view xs] => some ⟨.ex (List Int) fun l => .ask (xs = bytesI l ∧ n = l.length ∧ l.length ≤ cap ∧ cap ≤ 140737488355328)
      (.br (mayM l.length) (.ret (.tup [.s (.loc 1 0), .s (.bool true)]) [.view (bytesI l), .blk 94 [.sl 2 0 l.length l.length], mOwn l])
      (.ret (.tup [.s (.raw (.pointer none)), .s (.bool false)]) [.view (bytesI l)])), fun K h => by
      obtain ⟨l, ⟨e1, e2, h1, h2⟩, h⟩ := h
      subst e1; subst e2
      exact memory_c l cap h1 h2 K h⟩
  | _, _ => none)
noncomputable abbrev eEqual : Ent := .st (conS (P := Try.prog) (f := f_bytes_Equal) fun cargs σ0 => match cargs, σ0 with
  | [.s (.sl 0 0 n ca), .s (.sl 1 0 m cb)], [.own 5 1 c xs, .view ys] => some ⟨.ex (List Int × List Int) fun p => .ask (xs = bytesI p.1 ∧ ys = bytesI p.2 ∧ n = p.1.length ∧ m = p.2.length ∧ c = ca ∧ (∀ x ∈ p.1, 0 ≤ x ∧ x < 256) ∧ (∀ x ∈ p.2, 0 ≤ x ∧ x < 256))
      (.ret (.t (.s (.bool (decide (p.1 = p.2))))) [.own 5 1 ca (bytesI p.1), .view (bytesI p.2)]), fun K h => by
      obtain ⟨⟨a, b⟩, ⟨e1, e2, e3, e4, e5, h1, h2⟩, h⟩ := h
      subst e1; subst e2; subst e3; subst e4; subst e5
      exact Equal_o a b _ _ h1 h2 K h⟩
  | _, _ => none)
end Go.Proofs

namespace Go.Proofs
open Go Go.Sx
set_option maxRecDepth 10000
theorem getD_ext {a b : List Int} (hl : a.length = b.length) (h : ∀ j, a.getD j 0 = b.getD j 0) : a = b := by
  apply List.ext_getElem hl
  intro j h1 h2
  have := h j
  simpa [h1, h2] using this
theorem getD_byt (m : Ram) (i : Nat) : 0 ≤ m.l.getD i 0 ∧ m.l.getD i 0 < 256 := by
  by_cases h : i < m.l.length
  · rw [List.getD_eq_getElem?_getD, List.getElem?_eq_getElem h]; exact m.byt _ (List.getElem_mem h)
  · rw [List.getD_eq_getElem?_getD, List.getElem?_eq_none (by omega)]; exact ⟨by simp, by simp⟩
theorem word_set_at {m : Ram} {a v : Int} (ha : wBad m a = false) (hv : I32 v) : (m.set a v).word a = v := by
  unfold Ram.word
  rw [set_wBad, ha, set_ok ha]
  exact getW_setW (wBad_nat ha) hv
theorem byK_word {m : Ram} {i : Nat} (k : Nat) (hk : k < 4) : byK (getW m.l i) k = m.l.getD (i + k) 0 := by
  have h0 := getD_byt m i
  have h1 := getD_byt m (i + 1)
  have h2 := getD_byt m (i + 2)
  have h3 := getD_byt m (i + 3)
  unfold byK getW
  rw [Uw_Wd]
  have p0 : (256 : Int) ^ 0 = 1 := rfl
  have p1 : (256 : Int) ^ 1 = 256 := rfl
  have p2 : (256 : Int) ^ 2 = 65536 := rfl
  have p3 : (256 : Int) ^ 3 = 16777216 := rfl
  have hk' : k = 0 ∨ k = 1 ∨ k = 2 ∨ k = 3 := by omega
  rcases hk' with rfl | rfl | rfl | rfl
  · rw [p0]; show _ / 1 % 256 = m.l.getD i 0; omega
  · rw [p1]; omega
  · rw [p2]; omega
  · rw [p3]; omega
theorem word_eq {m : Ram} {a : Int} (ha : wBad m a = false) : m.word a = getW m.l (ofAt (wAt a)).toNat := by unfold Ram.word; rw [ha]; rfl
theorem setW_back {l : List Int} {i : Nat} {u v : Int} (h : i + 4 ≤ l.length) (hu : ∀ k, k < 4 → byK u k = l.getD (i + k) 0) : setW (setW l i v) i u = l := by
  have hl1 : (setW l i v).length = l.length := stW_length h 4 (by decide)
  have h' : i + 4 ≤ (setW l i v).length := by rw [hl1]; exact h
  apply getD_ext ((stW_length h' 4 (by decide)).trans hl1)
  intro j
  have e1 := stW_get (v := u) h' 4 (by decide) j
  have e2 := stW_get (v := v) h 4 (by decide) j
  refine e1.trans ?_
  split
  · rw [hu _ (by omega)]; congr 1; omega
  · rename_i hn; exact e2.trans (if_neg hn)
theorem setW_same {l : List Int} {i : Nat} {u : Int} (h : i + 4 ≤ l.length) (hu : ∀ k, k < 4 → byK u k = l.getD (i + k) 0) : setW l i u = l := by
  apply getD_ext (stW_length h 4 (by decide))
  intro j
  refine (stW_get (v := u) h 4 (by decide) j).trans ?_
  split
  · rw [hu _ (by omega)]; congr 1; omega
  · rfl
theorem set_back {m : Ram} {a v : Int} (ha : wBad m a = false) : (m.set a v).set a (m.word a) = m := by
  apply Ram.ext
  rw [set_ok (by rw [set_wBad]; exact ha), set_ok ha, word_eq ha]
  exact setW_back (wBad_nat ha) fun k hk => byK_word k hk
theorem set_same {m : Ram} {a : Int} (ha : wBad m a = false) : m.set a (m.word a) = m := by
  apply Ram.ext
  rw [set_ok ha, word_eq ha]
  exact setW_same (wBad_nat ha) fun k hk => byK_word k hk
theorem validB_len {m m' : Ram} (h : m.l.length = m'.l.length) (w : Int) : validB m w = validB m' w := by unfold validB; rw [h]
/-- With an error: a core of nothing, the memory as before. -/
def Safe (m : Ram) (x : Core × Int × Ram) : Prop := x.2.1 ≠ 0 → x.1 = .zero ∧ x.2.2 = m
theorem appR_len (k : Core) (m : Ram) (d : Int) : (appR k m d).2.2.l.length = m.l.length := by
  unfold appR
  cases bif !validB m (wsp d) then true else bif !(k.fr (odd d) == NP) then !validB m (k.bk (odd d)) else false
  · cases (k.fr (odd d) == NP)
    · exact set_len _ _ _
    · rfl
  · rfl
theorem appR_ok {k : Core} {m m' : Ram} {d : Int} (hl : m'.l.length = m.l.length) (h : queuedB k m d = true) : (appR k m' d).2.1 = 0 := by
  unfold queuedB at h
  unfold appR
  rw [validB_len hl, validB_len hl]
  cases h1 : validB m (wsp d) <;> simp only [h1, cond_true, cond_false] at h
  · cases h
  · cases hE : (k.fr (odd d) == NP)
    · rw [hE] at h
      simp only [cond_false] at h
      rw [h]; rfl
    · rfl
theorem appR_busy {k : Core} {m : Ram} {d : Int} (h : (appR k m d).2.1 = 0) : (appR k m d).1.busy = k.busy := by
  unfold appR at h ⊢
  cases hc : (bif !validB m (wsp d) then true else bif !(k.fr (odd d) == NP) then !validB m (k.bk (odd d)) else false)
  · cases hE : (k.fr (odd d) == NP) <;> simp only [cond_true, cond_false, Core.setB, Core.setF] <;> cases odd d <;> rfl
  · rw [hc] at h; exact absurd h (by simp)
theorem wtM_len (k : Core) (m : Ram) (ch at_ : Int) : (wtM k m ch at_).l.length = m.l.length := by unfold wtM; rw [set_len, set_len]
theorem waitE_ok {k : Core} {m : Ram} (hb : k.busy = true) (h : validB m k.wptr = true) : waitE k m = 0 := by simp [waitE, hb, h]
theorem wtsR_eq {k : Core} {m : Ram} {ch at_ : Int} (hb : k.busy = true) (h : validB m k.wptr = true) : wtsR k m ch at_ = (k.nobody, 0, (wtM k m ch at_).set (IntKind.i32.wrap (k.wptr + -4)) k.iptr) := by
  have hE := waitE_ok (m := wtM k m ch at_) hb (by rw [validB_len (wtM_len k m ch at_)]; exact h)
  unfold wtsR
  rw [h]
  simp only [Bool.not_true, cond_false, waitK, waitM, hE]
  rfl
theorem wtsR_safe {k : Core} {m : Ram} {ch at_ : Int} (hb : k.busy = true) : Safe m (wtsR k m ch at_) := by
  intro h
  cases hv : validB m k.wptr with
  | true => rw [wtsR_eq hb hv] at h; exact absurd rfl h
  | false => unfold wtsR; rw [hv]; exact ⟨rfl, rfl⟩
theorem finiR_ok {k : Core} {m m' : Ram} {ch d : Int} (hl : m'.l.length = m.l.length) (h : queuedB k m d = true) : (finiR k m' ch d).2.1 = 0 := by
  unfold finiR
  exact appR_ok (by rw [set_len]; exact hl) h
theorem copR_safe {k : Core} {m : Ram} {to fr n ch d : Int} : Safe m (copR k m to fr n ch d) := by
  intro h
  unfold copR at h ⊢
  cases hq : queuedB k m d with
  | false => exact ⟨rfl, rfl⟩
  | true =>
    rw [hq] at h
    cases h1 : decide (Uw n > m.l.length) with
    | true => exact ⟨rfl, rfl⟩
    | false =>
      cases h2 : (bif decide (n > 0) then mvBad m to fr n else false) with
      | true => exact ⟨rfl, rfl⟩
      | false =>
        rw [h1, h2] at h
        simp only [Bool.not_true, cond_false] at h
        refine absurd (finiR_ok (m := m) ?_ hq) h
        cases decide (n > 0)
        · rfl
        · exact move_len _ _ _ _
theorem begR_busy {k : Core} {m : Ram} {ch : Int} (h : (begR k m ch).2 = 0) : priBad k = false ∧ idleB k ch = false ∧ k.busy = true ∧ intB ch = true ∧ begR k m ch = (m.word ch, 0) ∧ wBad m ch = false := by
  unfold begR at h ⊢
  cases hp : priBad k <;> rw [hp] at h
  · cases hi : idleB k ch <;> rw [hi] at h
    · refine ⟨rfl, rfl, ?_, ?_, ?_, ?_⟩
      · unfold idleB at hi; cases hb : k.busy <;> simp [hb] at hi ⊢
      · unfold idleB at hi; cases hb : k.busy <;> simp [hb] at hi ⊢; exact hi
      · simp only [cond_false] at h ⊢; rw [h]
      · simp only [cond_false] at h
        unfold Ram.err at h
        cases hw : wBad m ch <;> simp [hw] at h ⊢
    · exact absurd h (by simp)
  · exact absurd h (by simp)
theorem inR_safe (k : Core) (m : Ram) (n ch at_ : Int) : Safe m (inR k m n ch at_) := by
  intro h
  unfold inR inR2 at h ⊢
  cases he : ((begR k m ch).2 != 0) with
  | true => exact ⟨rfl, rfl⟩
  | false =>
    have hb := (begR_busy (by simpa using he)).2.2.1
    rw [he] at h
    simp only [cond_false] at h ⊢
    cases hd : ((begR k m ch).1 == NP) <;> rw [hd] at h
    · cases hv : validB m (wsp (begR k m ch).1) <;> rw [hv] at h
      · exact ⟨rfl, rfl⟩
      · exact copR_safe h
    · exact wtsR_safe hb h
theorem outR_safe (k : Core) (m : Ram) (n ch at_ : Int) : Safe m (outR k m n ch at_) := by
  intro h
  unfold outR outR2 at h ⊢
  cases he : ((begR k m ch).2 != 0) with
  | true => exact ⟨rfl, rfl⟩
  | false =>
    have hb := (begR_busy (by simpa using he)).2.2.1
    rw [he] at h
    generalize (begR k m ch).1 = d at h ⊢
    simp only [cond_false] at h ⊢
    cases hd : (d == NP) <;> rw [hd] at h
    · cases hv : validB m (wsp d) <;> rw [hv] at h
      · exact ⟨rfl, rfl⟩
      · generalize m.word (stA d) = s at h ⊢
        simp only [cond_false, Bool.not_true] at h ⊢
        cases hn : naltB s <;> rw [hn] at h
        · cases ho : oBad k m d s <;> rw [ho] at h
          · simp only [cond_false] at h
            exfalso
            refine h ?_
            have hvw : validB m k.wptr = true := by unfold oBad at ho; cases hv : validB m k.wptr <;> simp [hv] at ho ⊢
            unfold oBad at ho
            rw [hvw] at ho
            unfold oApp
            cases hs : (s == -2147483646) <;> rw [hs] at ho
            · show (wtsR k (m.set (stA d) (-2147483645)) ch at_).2.1 = 0
              rw [wtsR_eq hb (by rw [validB_len (set_len _ _ _)]; exact hvw)]
            · have hq : queuedB k m d = true := by simpa using ho
              have h0 := appR_ok (m' := m.set (stA d) (-2147483645)) (set_len _ _ _) hq
              show (wtsR (appR k (m.set (stA d) (-2147483645)) d).1 (appR k (m.set (stA d) (-2147483645)) d).2.2 ch at_).2.1 = 0
              rw [wtsR_eq (by rw [appR_busy h0]; exact hb) (by rw [appR_wptr _ _ _ h0, validB_len ((appR_len _ _ _).trans (set_len _ _ _))]; exact hvw)]
          · exact ⟨rfl, rfl⟩
        · exact copR_safe h
    · exact wtsR_safe hb h
theorem shoR_safe (k : Core) (m : Ram) (n : Int) : Safe m (shoR k m n) := by
  intro h
  unfold shoR at h ⊢
  cases hi : idleB k k.b <;> rw [hi] at h
  · cases he : (m.err k.wptr != 0) <;> rw [he] at h
    · simp only [cond_false] at h ⊢
      have hs := outR_safe k (m.set k.wptr k.a) n k.b k.wptr
      cases ho : ((outR k (m.set k.wptr k.a) n k.b k.wptr).2.1 != 0) <;> rw [ho] at h
      · simp only [cond_false] at h
        exact absurd h (by simpa using ho)
      · simp only [cond_true]
        obtain ⟨h1, h2⟩ := hs (by simpa using ho)
        rw [h1, h2]
        refine ⟨rfl, set_back ?_⟩
        unfold Ram.err at he
        cases hw : wBad m k.wptr <;> simp [hw] at he ⊢
    · exact ⟨rfl, rfl⟩
  · exact ⟨rfl, rfl⟩
theorem resR_safe (k : Core) (m : Ram) : Safe m (resR k m) := by
  intro h
  unfold resR at h ⊢
  cases he : ((begR k m k.a).2 != 0) <;> rw [he] at h
  · exact absurd rfl h
  · exact ⟨rfl, rfl⟩
theorem execR_safe (k : Core) (m : Ram) (fn o : Int) : Safe m (execR k m fn o) := by
  unfold execR
  cases priBad k
  · cases (!mineB fn o)
    · show Safe m (opR k m o)
      unfold opR
      cases o == 7
      · cases o == 11
        · cases o == 14
          · cases o == 15
            · exact resR_safe k m
            · exact shoR_safe k m 4
          · exact shoR_safe k m 1
        · exact outR_safe k m _ _ _
      · exact inR_safe k m _ _ _
    · exact fun _ => ⟨rfl, rfl⟩
  · exact fun _ => ⟨rfl, rfl⟩
/-- resetch. -/
theorem execR_reset {k : Core} {m : Ram} {fn : Int} (h : (execR k m fn 18).2.1 = 0) : execR k m fn 18 = ({ k with a := m.word k.a }, 0, m.set k.a NP) ∧ (m.set k.a NP).word k.a = NP := by
  unfold execR at h ⊢
  cases hp : priBad k <;> rw [hp] at h
  · cases hm : (!mineB fn 18) <;> rw [hm] at h
    · have h : (resR k m).2.1 = 0 := h
      show resR k m = _ ∧ _
      unfold resR at h ⊢
      cases he : ((begR k m k.a).2 != 0) <;> rw [he] at h
      · obtain ⟨_, _, _, _, hb, hw⟩ := begR_busy (k := k) (m := m) (ch := k.a) (by simpa using he)
        rw [hb]
        exact ⟨rfl, word_set_at hw (by unfold NP I32; omega)⟩
      · simp only [cond_true] at h
        rw [h] at he; exact absurd he (by decide)
    · exact absurd h (by simp)
  · exact absurd h (by simp)
theorem execR_mine {k : Core} {m : Ram} {fn o : Int} (h : (execR k m fn o).2.1 = 0) : mineB fn o = true := by
  unfold execR at h
  cases hm : mineB fn o
  · rw [hm] at h
    cases hp : priBad k <;> rw [hp] at h <;> exact absurd h (by simp)
  · rfl
end Go.Proofs

namespace Go.Proofs
open Go Go.Sx
set_option maxRecDepth 10000
theorem SizeN_c : Con Try.prog f_mem_Mem_Size [.s (.raw (.pointer none))] [] (.ret (.t (.s (.int .i64 0))) []) := by
  intro K hK
  refine enter fn_mem_Mem_Size rfl nt_mem_Mem_Size rfl rfl (fun φ w0 β0 F => ?_)
  refine c_run tt_ok (ct := []) trivial k_mem_Mem_Size [] 60 (by kernel_rfl) ?_
  refine ⟨fun _ => ?_, fun h => absurd h (by decide)⟩
  exact fin_k tt_ok (rs := rs_mem_Mem_Size) rfl rfl hK [] rfl rfl rfl rfl rfl rfl
noncomputable abbrev eSizeN : Ent := .st (conS (P := Try.prog) (f := f_mem_Mem_Size) fun cargs σ0 => match cargs, σ0 with
  | [.s (.raw (.pointer none))], [] => some ⟨.ret (.t (.s (.int .i64 0))) [], fun K h => SizeN_c K h⟩
  | _, _ => none)
noncomputable abbrev ctNi : CT := [(f_mem_Mem_Size, eSizeN)]
theorem ctNi_ok : CTok Try.prog ctNi := ⟨con_ok cal_mem_Mem_Size _, trivial⟩
theorem ExecN_c (k : Core) (fn o : Int) : Con Try.prog f_channel_Exec [.agg k.sv, .s (.raw (.pointer none)), .agg [.int .u8 fn, .int .i32 o]] []
    (.ret (.tup [.agg Core.zero.sv, .s (.int .i64 1)]) []) := by
  intro K hK
  refine enter fn_channel_Exec rfl nt_channel_Exec rfl rfl (fun φ w0 β0 F => ?_)
  refine c_run tt_ok ctNi_ok k_channel_Exec [] 60 (by kernel_rfl) ?_
  refine ⟨fun _ => ?_, fun h => absurd h (by decide)⟩
  exact fin_k tt_ok (rs := rs_channel_Exec) rfl rfl hK [] rfl rfl rfl rfl rfl rfl
noncomputable abbrev eExec2 : Ent := .st (conS (P := Try.prog) (f := f_channel_Exec) fun cargs σ0 => match cargs, σ0 with
  | [.agg cs, .s (.raw (.pointer none)), .agg [.int .u8 fn, .int .i32 o]], [] => withCore cs fun k hk => some ⟨.ret (.tup [.agg Core.zero.sv, .s (.int .i64 1)]) [], fun K h => by subst hk; exact ExecN_c k fn o K h⟩
  | [.agg cs, .s (.loc 0 0), .agg [.int .u8 fn, .int .i32 o]], [.blk 94 [.sl 1 0 n n'], .own 5 1 c xs] => withCore cs fun k hk => some ⟨.ex (Ram × Core × Int × Ram) fun p => .ask (n = p.1.l.length ∧ n' = p.1.l.length ∧ c = p.1.l.length ∧ xs = bytesI p.1.l ∧ k.ok ∧ execR k p.1 fn o = p.2)
      (.ret (.tup [.agg p.2.1.sv, .s (.int .i64 p.2.2.1)]) [mBox p.2.2.2.l.length, mOwn p.2.2.2.l]), fun K h => by
      obtain ⟨⟨m, k', e', m'⟩, ⟨e1, e2, e3, e4, h1, h2⟩, h⟩ := h
      dsimp only at e1 e2 e3 e4 h2 h
      subst e1; subst e2; subst e3; subst e4; subst hk
      refine Exec_c k m fn o h1 K ?_
      rw [h2]; exact h⟩
  | _, _ => none)
noncomputable abbrev ctEr : CT := [(f_channel_Exec, eExec2), (f_l30_memory, eMemory), (f_l30_awake, .pure spAwake), (f_mem_Mem_Bytes, eBytes), (f_bytes_Equal, eEqual), (f_l30_word, eLword), (f_channel_Mine, .pure spMine)]
theorem ctEr_ok : CTok Try.prog ctEr := ⟨con_ok cal_channel_Exec _, con_ok cal_l30_memory _, ceAwake, con_ok cal_mem_Mem_Bytes _, con_ok cal_bytes_Equal _, con_ok cal_l30_word _, ceMine, trivial⟩
theorem mayM_ram {l : List Int} (h : mayM l.length = true) (hb : ∀ b ∈ l, 0 ≤ b ∧ b < 256) : ∃ m : Ram, m.l = l := by
  have h4 := mayM_mod h
  unfold mayM at h
  have h1 : 1024 ≤ l.length ∧ l.length ≤ 65536 := by
    cases h1 : decide ((l.length : Int) ≥ 1024) <;> cases h2 : decide ((l.length : Int) ≤ 65536) <;> simp [h1, h2] at h
    simp at h1 h2; omega
  exact ⟨⟨l, h1.1, h1.2, h4, hb⟩, rfl⟩
set_option maxHeartbeats 2000000 in
theorem ChannelErrors_c (k : Core) (l : List Int) (cap : Nat) (fn o : Int) (hok : k.ok) (hl : l.length ≤ cap) (hm : cap ≤ 140737488355328) (hb : ∀ b ∈ l, 0 ≤ b ∧ b < 256) :
    Con Try.prog f_l30_ChannelErrors [.agg k.sv, .s (.sl 0 0 l.length cap), .agg [.int .u8 fn, .int .i32 o]] [.view (bytesI l)] (.ret (.t (.s (.bool true))) [.view (bytesI l)]) := by
  intro K hK
  refine enter fn_l30_ChannelErrors rfl nt_l30_ChannelErrors rfl rfl (fun φ w0 β0 F => ?_)
  refine c_run tt_ok ctEr_ok k_l30_ChannelErrors [] 60 (by kernel_rfl) ?_
  refine ⟨fun h => absurd h (by decide), fun _ => ⟨l, ⟨rfl, rfl, hl, hm⟩, fun h1 => ⟨fun h2 => ?_, fun h2 => ?_⟩, fun h1 => ?_⟩⟩
  · refine ⟨trivial, ?_⟩
    exact fin_k tt_ok (rs := rs_l30_ChannelErrors) rfl rfl hK [0] rfl rfl rfl rfl rfl rfl
  · obtain ⟨m, rfl⟩ := mayM_ram h1 hb
    have hS := execR_safe k m fn o
    generalize hx : execR k m fn o = x at hS
    obtain ⟨k', e', m'⟩ := x
    by_cases he : e' = 0
    · subst he
      refine ⟨(m, k', 0, m'), ⟨rfl, rfl, rfl, rfl, hok, hx⟩, fun h => absurd h (by simp), fun _ => ⟨fun h3 => ?_, fun h3 => ?_⟩⟩
      · refine ⟨m.l, ⟨rfl, rfl, hl, hm⟩, fun h4 => ?_, fun h4 => absurd (h1.symm.trans h4) (by decide)⟩
        have ho : o = 18 := by simpa using h3
        subst ho
        obtain ⟨e1, e2⟩ := execR_reset (k := k) (m := m) (fn := fn) (by rw [hx])
        rw [hx] at e1
        cases e1
        refine c_ways tt_ok ctEr_ok k_l30_ChannelErrors rfl rfl ?_
        have hA : (m.word k.a == m.word k.a) = true := by simp
        have hB : ((m.set k.a NP).word k.a == -2147483648) = true := by rw [e2]; rfl
        refine ⟨?_, ⟨?_, ?_⟩⟩
        all_goals
          refine ⟨m, ⟨rfl, rfl, rfl, rfl, hok.a⟩, ?_⟩
          refine ⟨fun _ => ?_, fun h => absurd h (by rw [hA]; simp)⟩
          refine ⟨m.set k.a NP, ⟨rfl, rfl, rfl, rfl, hok.a⟩, ?_⟩
          refine ⟨⟨⟨fun _ => trivial, ?_⟩, ⟨fun _ => trivial, ?_⟩⟩, ⟨⟨fun _ => trivial, ?_⟩, ⟨fun _ => trivial, ?_⟩⟩⟩
          all_goals
            refine e_run tt_ok ctEr_ok k_l30_ChannelErrors [] 60 (by kernel_rfl) ?_
            refine fin_k tt_ok (rs := rs_l30_ChannelErrors) rfl rfl hK [0] (t1b ?_) rfl rfl rfl rfl rfl
            rw [hA, hB]
            simp
      · refine ⟨trivial, ?_⟩
        have hmi := execR_mine (k := k) (m := m) (fn := fn) (o := o) (by rw [hx])
        refine ⟨fun _ => trivial, ?_⟩
        refine fin_k tt_ok (rs := rs_l30_ChannelErrors) rfl rfl hK [0] (t1b ?_) rfl rfl rfl rfl rfl
        rw [hmi]; rfl
    · obtain ⟨e1, e2⟩ := hS he
      dsimp only at e1 e2
      subst e1; subst e2
      refine ⟨(m', .zero, e', m'), ⟨rfl, rfl, rfl, rfl, hok, hx⟩, fun h => ?_, fun h => absurd h (by simp [he])⟩
      have h0 := m'.lo
      refine ⟨fun _ => ⟨m'.l, ⟨rfl, rfl, rfl, rfl, m'.hi, by omega⟩, fun _ => ⟨(m'.l, m'.l), ⟨rfl, rfl, rfl, rfl, rfl, m'.byt, m'.byt⟩, ?_⟩, fun h => absurd h (by decide)⟩, fun h => absurd h (by decide)⟩
      refine ⟨fun _ => trivial, ?_⟩
      refine fin_k tt_ok (rs := rs_l30_ChannelErrors) rfl rfl hK [0] (t1b ?_) rfl rfl rfl rfl rfl
      rw [show decide (m'.l = m'.l) = true from decide_eq_true rfl]; rfl
  · refine ⟨fun _ => ⟨trivial, ?_⟩, fun h => absurd h (by simp)⟩
    exact fin_k tt_ok (rs := rs_l30_ChannelErrors) rfl rfl hK [0] rfl rfl rfl rfl rfl rfl
end Go.Proofs

namespace Go.Proofs
open Go Go.Sx
theorem i64_fit {x : Int} (h : (Lit.int .i64 x).wf = true) : -9223372036854775808 ≤ x ∧ x ≤ 9223372036854775807 := by
  simp [Lit.wf, IntKind.min, IntKind.max, IntKind.signed, IntKind.bits] at h
  omega
end Go.Proofs
