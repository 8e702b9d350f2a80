/- The reference's alternatives: own, at, linked, store, choose. -/
import Derived.Test.YtdmfegcenmlkoaaWalkA

namespace Go.Proofs
open Go Go.Sx
set_option maxRecDepth 10000
theorem RWrap_c (t : Int) (h1 : -9223372036854775808 ≤ t) (h2 : t ≤ 9223372036854775807) : Con Try.prog f_r01_Wrap [.s (.int .i64 t)] [] (.ret (.t (.s (.int .i32 (IntKind.i32.wrap t)))) []) := by
  intro K hK
  refine enter fn_r01_Wrap rfl nt_r01_Wrap rfl rfl (fun φ w0 β0 F => ?_)
  refine c_run tt_ok (ct := []) trivial k_r01_Wrap [] 60 (by kernel_rfl) ?_
  have ht : t.tmod 4294967296 = t % 4294967296 ∨ (t < 0 ∧ t.tmod 4294967296 = -((-t) % 4294967296)) := by
    rcases Int.lt_or_le t 0 with h | h
    · right
      refine ⟨h, ?_⟩
      have : t = -(-t) := by omega
      rw [this, Int.neg_tmod, Int.tmod_eq_emod_of_nonneg (by omega), Int.neg_neg]
    · left; exact Int.tmod_eq_emod_of_nonneg h
  have hr : IntKind.i64.wrap (t.tmod 4294967296) = t.tmod 4294967296 := by rw [wrap64 (by omega) (by omega)]
  refine ⟨fun h => ⟨fun h3 => ?_, fun h3 => ?_⟩, fun h => ⟨fun h3 => ?_, fun h3 => ?_⟩⟩
  all_goals
    simp only [decide_eq_true_eq, decide_eq_false_iff_not, hr] at h h3
    refine fin_k tt_ok (rs := rs_r01_Wrap) rfl rfl hK [] (t1 ?_) rfl rfl rfl rfl rfl
    simp only [hr, IntKind.wrap_i32, IntKind.wrap_i64] at *
    omega
def spRWrap : List TV → Option (Prop × FV)
  | [.s (.int .i64 t)] => some (-9223372036854775808 ≤ t ∧ t ≤ 9223372036854775807, .t (.s (.int .i32 (IntKind.i32.wrap t))))
  | _ => none
theorem ceRWrap : CEok Try.prog f_r01_Wrap spRWrap := ⟨cal_r01_Wrap, fun args p v h hp => by
  unfold spRWrap at h; split at h
  · cases h; exact (RWrap_c _ hp.1 hp.2).pure
  · cases h⟩
noncomputable abbrev ctRW1 : CT := [(f_r01_Wrap, .pure spRWrap)]
theorem ctRW1_ok : CTok Try.prog ctRW1 := ⟨ceRWrap, trivial⟩
theorem i64_lo (n : Int) : -9223372036854775808 ≤ IntKind.i64.wrap n := by rw [IntKind.wrap_i64]; omega
theorem i64_hi (n : Int) : IntKind.i64.wrap n ≤ 9223372036854775807 := by rw [IntKind.wrap_i64]; omega
theorem Rat_c (w k : Int) (hw : I32 w) (hk : I32 k) : Con Try.prog f_r31_at [.s (.int .i32 w), .s (.int .i32 k)] [] (.ret (.t (.s (.int .i32 (IntKind.i32.wrap (w + 4 * k))))) []) := by
  intro K hK
  refine enter fn_r31_at rfl nt_r31_at rfl rfl (fun φ w0 β0 F => ?_)
  refine c_run tt_ok ctRW1_ok k_r31_at [] 60 (by kernel_rfl) ?_
  refine ⟨⟨i64_lo _, i64_hi _⟩, ?_⟩
  refine fin_k tt_ok (rs := rs_r31_at) rfl rfl hK [] (t1 ?_) rfl rfl rfl rfl rfl
  unfold I32 at hw hk
  simp only [IntKind.wrap_i32, IntKind.wrap_i64]
  omega
def spRat : List TV → Option (Prop × FV)
  | [.s (.int .i32 w), .s (.int .i32 k)] => some (I32 w ∧ I32 k, .t (.s (.int .i32 (IntKind.i32.wrap (w + 4 * k)))))
  | _ => none
theorem ceRat : CEok Try.prog f_r31_at spRat := ⟨cal_r31_at, fun args p v h hp => by
  unfold spRat at h; split at h
  · cases h; exact (Rat_c _ _ hp.1 hp.2).pure
  · cases h⟩
theorem Rown_c (k : Core) : Con Try.prog f_r31_own [.agg k.sv] [] (.ret (.t (.s (.int .i32 (ownAt k.wptr k.pri)))) []) := by
  intro K hK
  refine enter fn_r31_own rfl nt_r31_own rfl rfl (fun φ w0 β0 F => ?_)
  refine c_run tt_ok ctRW1_ok k_r31_own [] 60 (by kernel_rfl) ?_
  refine ⟨⟨i64_lo _, i64_hi _⟩, ?_⟩
  refine fin_k tt_ok (rs := rs_r31_own) rfl rfl hK [] (t1 ?_) rfl rfl rfl rfl rfl
  unfold ownAt
  simp only [IntKind.wrap_i32, IntKind.wrap_i64]
  omega
def spRown : List TV → Option (Prop × FV)
  | [.agg cs] => withCore cs fun k _ => some (True, .t (.s (.int .i32 (ownAt k.wptr k.pri))))
  | _ => none
theorem ceRown : CEok Try.prog f_r31_own spRown := ⟨cal_r31_own, fun args p v h hp => by
  unfold spRown at h; split at h
  · obtain ⟨k, hk, h⟩ := withCore_some h
    cases h; subst hk; exact (Rown_c _).pure
  · cases h⟩
theorem Rlinked_c (c : Int) (hc : I32 c) : Con Try.prog f_r31_linked [.s (.int .i32 c)] [] (.ret (.t (.s (.bool (decide (c < -2147483616))))) []) := by
  intro K hK
  refine enter fn_r31_linked rfl nt_r31_linked rfl rfl (fun φ w0 β0 F => ?_)
  refine c_run tt_ok ctI_ok k_r31_linked [] 60 (by kernel_rfl) ?_
  refine ⟨hc, ?_⟩
  refine fin_k tt_ok (rs := rs_r31_linked) rfl rfl hK [] (t1b ?_) rfl rfl rfl rfl rfl
  unfold ofAt; congr 1; apply propext; constructor <;> intro h <;> omega
def spRlinked : List TV → Option (Prop × FV)
  | [.s (.int .i32 c)] => some (I32 c, .t (.s (.bool (decide (c < -2147483616)))))
  | _ => none
theorem ceRlinked : CEok Try.prog f_r31_linked spRlinked := ⟨cal_r31_linked, fun args p v h hp => by
  unfold spRlinked at h; split at h
  · cases h; exact (Rlinked_c _ hp).pure
  · cases h⟩
/-- What a function of the reference returns: a core, a memory, an error. -/
abbrev RES (m m' : Ram) (k' : Core) (e' : Int) : Out := .all Nat (fun c => m'.l.length ≤ c) fun c => .ret (.tup [.agg k'.sv, .s (.sl 1 0 m'.l.length c), .s (.int .i64 e')]) [.view (bytesI m.l), .view (bytesI m'.l)]
def stR (k : Core) (m : Ram) (a v : Int) : Core × Int × Ram := bif wBad m a then (.zero, 4, m) else (k, 0, m.set a v)
noncomputable abbrev ctRSt : CT := [(f_r03_SetWord, eRSetWordT)]
theorem ctRSt_ok : CTok Try.prog ctRSt := ⟨con_ok cal_r03_SetWord _, trivial⟩
theorem seg_all (m : Ram) : seg (bytesI m.l) 0 m.l.length = bytesI m.l := by rw [seg_bytesI, List.drop_zero, List.take_length]
theorem Rstore_c (k : Core) (m : Ram) (cap : Nat) (a v : Int) (k' : Core) (e' : Int) (m' : Ram) (ha : I32 a) (hc : m.l.length ≤ cap) (hx : stR k m a v = (k', e', m')) :
    Con Try.prog f_r31_store [.agg k.sv, .s (.sl 0 0 m.l.length cap), .s (.int .i32 a), .s (.int .i32 v)] [.view (bytesI m.l)] (RES m m' k' e') := by
  intro K hK
  refine enter fn_r31_store rfl nt_r31_store rfl rfl (fun φ w0 β0 F => ?_)
  refine c_run tt_ok ctRSt_ok k_r31_store [] 60 (by kernel_rfl) ?_
  refine ⟨m, ⟨rfl, rfl, ha, hc⟩, fun c h1 => ⟨fun h => ?_, fun h => ?_⟩⟩
  · have hb : wBad m a = true := by
      cases hb : wBad m a with
      | true => rfl
      | false => simp [Ram.err, hb] at h
    simp only [stR, hb, cond_true] at hx
    cases hx
    refine WpE.into (aliasSlot 9 0 0 m.l.length cap rfl rfl) ?_
    refine fin_k tt_ok (rs := rs_r31_store) rfl rfl (hK cap hc) [0, 4] ?_ ?_ rfl rfl rfl rfl
    · rfl
    · rw [seg_all]; rfl
  · have hb : wBad m a = false := by
      cases hb : wBad m a with
      | false => rfl
      | true => simp [Ram.err, hb] at h
    simp only [stR, hb, cond_false] at hx
    cases hx
    refine fin_k tt_ok (rs := rs_r31_store) rfl rfl (hK c (by rw [set_len]; exact h1)) [0, 3] ?_ ?_ rfl rfl rfl rfl
    · rfl
    · rfl
end Go.Proofs

namespace Go.Proofs
open Go Go.Sx
set_option maxRecDepth 10000
noncomputable abbrev eRStore : Ent := .st (conS (P := Try.prog) (f := f_r31_store) fun cargs σ0 => match cargs, σ0 with
  | [.agg cs, .s (.sl 0 0 n cap), .s (.int .i32 a), .s (.int .i32 v)], [.view xs] => withCore cs fun k hk => some ⟨.ex (Ram × Core × Int × Ram) fun p => .ask (n = p.1.l.length ∧ xs = bytesI p.1.l ∧ I32 a ∧ p.1.l.length ≤ cap ∧ stR k p.1 a v = p.2)
      (RES p.1 p.2.2.2 p.2.1 p.2.2.1), fun K h => by
      obtain ⟨⟨m, k', e', m'⟩, ⟨e1, e2, h1, h2, h3⟩, h⟩ := h
      dsimp only at e1 e2 h1 h2 h3 h
      subst e1; subst e2; subst hk
      exact Rstore_c k m cap a v k' e' m' h1 h2 h3 K h⟩
  | _, _ => none)
def chR (k : Core) (m : Ram) : Core × Int × Ram := bif wBad m k.wptr then (.zero, 4, m) else bif m.word k.wptr != -1 then ({ k with a := 0 }, 0, m) else stR { k with a := 1 } m k.wptr k.a
noncomputable abbrev ctRCh : CT := [(f_r03_Word, eRWordT), (f_r31_store, eRStore), (f_r31_at, .pure spRat), (f_r31_own, .pure spRown)]
theorem ctRCh_ok : CTok Try.prog ctRCh := ⟨con_ok cal_r03_Word _, con_ok cal_r31_store _, ceRat, ceRown, trivial⟩
theorem err_bad {m : Ram} {a : Int} (h : (m.err a != 0) = true) : wBad m a = true := by
  cases hb : wBad m a with
  | true => rfl
  | false => simp [Ram.err, hb] at h
theorem err_ok {m : Ram} {a : Int} (h : (m.err a != 0) = false) : wBad m a = false := by
  cases hb : wBad m a with
  | false => rfl
  | true => simp [Ram.err, hb] at h
theorem Rchoose_c (k : Core) (m : Ram) (cap : Nat) (k' : Core) (e' : Int) (m' : Ram) (hok : k.ok) (hc : m.l.length ≤ cap) (hx : chR k m = (k', e', m')) :
    Con Try.prog f_r31_choose [.agg k.sv, .s (.sl 0 0 m.l.length cap)] [.view (bytesI m.l)] (RES m m' k' e') := by
  intro K hK
  refine enter fn_r31_choose rfl nt_r31_choose rfl rfl (fun φ w0 β0 F => ?_)
  refine c_run tt_ok ctRCh_ok k_r31_choose [] 60 (by kernel_rfl) ?_
  refine ⟨m, ⟨rfl, rfl, hok.wptr⟩, fun h => ?_, fun h => ⟨fun h2 => ?_, fun h2 => ?_⟩⟩
  · have hb := err_bad h
    simp only [chR, hb, cond_true] at hx
    cases hx
    refine WpE.into (aliasSlot 5 0 0 m.l.length cap rfl rfl) ?_
    refine fin_k tt_ok (rs := rs_r31_choose) rfl rfl (hK cap hc) [0, 3] rfl ?_ rfl rfl rfl rfl
    rw [seg_all]; rfl
  · have hb := err_ok h
    simp only [chR, hb, h2, cond_true, cond_false] at hx
    cases hx
    refine WpE.into (aliasSlot 5 0 0 m.l.length cap rfl rfl) ?_
    refine fin_k tt_ok (rs := rs_r31_choose) rfl rfl (hK cap hc) [0, 3] rfl ?_ rfl rfl rfl rfl
    rw [seg_all]; rfl
  · have hb := err_ok h
    simp only [chR, hb, h2, cond_false] at hx
    obtain ⟨p0, p1, p2, p3, p4, p5, p6, p7, p8, p9, p10, p11, p12, p13, p14, p15, p16, p17, p18, p19, p20, p21, p22, p23, p24, p25, p26, p27⟩ := k'
    refine ⟨(m, ⟨p0, p1, p2, p3, p4, p5, p6, p7, p8, p9, p10, p11, p12, p13, p14, p15, p16, p17, p18, p19, p20, p21, p22, p23, p24, p25, p26, p27⟩, e', m'), ⟨rfl, rfl, hok.wptr, hc, hx⟩, fun c h1 => ?_⟩
    refine fin_k tt_ok (rs := rs_r31_choose) rfl rfl (hK c h1) [0, 4] rfl rfl rfl rfl rfl rfl
noncomputable abbrev eRChoose : Ent := .st (conS (P := Try.prog) (f := f_r31_choose) fun cargs σ0 => match cargs, σ0 with
  | [.agg cs, .s (.sl 0 0 n cap)], [.view xs] => withCore cs fun k hk => some ⟨.ex (Ram × Core × Int × Ram) fun p => .ask (n = p.1.l.length ∧ xs = bytesI p.1.l ∧ k.ok ∧ p.1.l.length ≤ cap ∧ chR k p.1 = p.2)
      (RES p.1 p.2.2.2 p.2.1 p.2.2.1), fun K h => by
      obtain ⟨⟨m, k', e', m'⟩, ⟨e1, e2, h1, h2, h3⟩, h⟩ := h
      dsimp only at e1 e2 h1 h2 h3 h
      subst e1; subst e2; subst hk
      exact Rchoose_c k m cap k' e' m' h1 h2 h3 K h⟩
  | _, _ => none)
def disR (k : Core) (m : Ram) (ch : Int) : Core × Int × Ram := bif wBad m ch then (.zero, 4, m) else bif (bif m.word ch != -2147483648 then m.word ch != ownAt k.wptr k.pri else false) then chR k m
  else bif m.word ch == ownAt k.wptr k.pri then stR { k with a := 0 } m ch (-2147483648) else ({ k with a := 0 }, 0, m)
noncomputable abbrev ctRDi : CT := (f_r31_choose, eRChoose) :: ctRCh
theorem ctRDi_ok : CTok Try.prog ctRDi := ⟨con_ok cal_r31_choose _, ctRCh_ok⟩
theorem Rdisable_c (k : Core) (m : Ram) (cap : Nat) (ch : Int) (k' : Core) (e' : Int) (m' : Ram) (hok : k.ok) (hch : I32 ch) (hc : m.l.length ≤ cap) (hx : disR k m ch = (k', e', m')) :
    Con Try.prog f_r31_disable [.agg k.sv, .s (.sl 0 0 m.l.length cap), .s (.int .i32 ch)] [.view (bytesI m.l)] (RES m m' k' e') := by
  intro K hK
  refine enter fn_r31_disable rfl nt_r31_disable rfl rfl (fun φ w0 β0 F => ?_)
  refine c_run tt_ok ctRDi_ok k_r31_disable [] 60 (by kernel_rfl) ?_
  refine ⟨m, ⟨rfl, rfl, hch⟩, fun h => ?_, fun h => ⟨fun _ => trivial, fun h2 => ?_, fun h2 => ⟨trivial, fun h3 => ?_, fun h3 => ?_⟩⟩⟩
  · have hb := err_bad h
    simp only [disR, hb, cond_true] at hx
    cases hx
    refine WpE.into (aliasSlot 7 0 0 m.l.length cap rfl rfl) ?_
    refine fin_k tt_ok (rs := rs_r31_disable) rfl rfl (hK cap hc) [0, 3] rfl ?_ rfl rfl rfl rfl
    rw [seg_all]; rfl
  · have hb := err_ok h
    simp only [disR, hb, show (bif m.word ch != -2147483648 then m.word ch != ownAt k.wptr k.pri else false) = true from h2, cond_true, cond_false] at hx
    obtain ⟨p0, p1, p2, p3, p4, p5, p6, p7, p8, p9, p10, p11, p12, p13, p14, p15, p16, p17, p18, p19, p20, p21, p22, p23, p24, p25, p26, p27⟩ := k'
    refine ⟨(m, ⟨p0, p1, p2, p3, p4, p5, p6, p7, p8, p9, p10, p11, p12, p13, p14, p15, p16, p17, p18, p19, p20, p21, p22, p23, p24, p25, p26, p27⟩, e', m'), ⟨rfl, rfl, hok, hc, hx⟩, fun c h1 => ?_⟩
    refine fin_k tt_ok (rs := rs_r31_disable) rfl rfl (hK c h1) [0, 3] rfl rfl rfl rfl rfl rfl
  · have hb := err_ok h
    simp only [disR, hb, show (bif m.word ch != -2147483648 then m.word ch != ownAt k.wptr k.pri else false) = false from h2, show (m.word ch == ownAt k.wptr k.pri) = true from h3, cond_true, cond_false] at hx
    obtain ⟨p0, p1, p2, p3, p4, p5, p6, p7, p8, p9, p10, p11, p12, p13, p14, p15, p16, p17, p18, p19, p20, p21, p22, p23, p24, p25, p26, p27⟩ := k'
    refine ⟨(m, ⟨p0, p1, p2, p3, p4, p5, p6, p7, p8, p9, p10, p11, p12, p13, p14, p15, p16, p17, p18, p19, p20, p21, p22, p23, p24, p25, p26, p27⟩, e', m'), ⟨rfl, rfl, hch, hc, hx⟩, fun c h1 => ?_⟩
    refine fin_k tt_ok (rs := rs_r31_disable) rfl rfl (hK c h1) [0, 3] rfl rfl rfl rfl rfl rfl
  · have hb := err_ok h
    simp only [disR, hb, show (bif m.word ch != -2147483648 then m.word ch != ownAt k.wptr k.pri else false) = false from h2, show (m.word ch == ownAt k.wptr k.pri) = false from h3, cond_false] at hx
    cases hx
    refine WpE.into (aliasSlot 7 0 0 m.l.length cap rfl rfl) ?_
    refine fin_k tt_ok (rs := rs_r31_disable) rfl rfl (hK cap hc) [0, 3] rfl ?_ rfl rfl rfl rfl
    rw [seg_all]; rfl
end Go.Proofs

namespace Go.Proofs
open Go Go.Sx
set_option maxRecDepth 10000
def enR (k : Core) (m : Ram) : Core × Int × Ram := bif wBad m k.b then (.zero, 4, m) else bif m.word k.b == -2147483648 then stR { k with b := k.c } m k.b (ownAt k.wptr k.pri)
  else bif m.word k.b == ownAt k.wptr k.pri then ({ k with b := k.c }, 0, m) else stR { k with b := k.c } m (stAt k.wptr) (-2147483645)
theorem Renable_c (k : Core) (m : Ram) (cap : Nat) (k' : Core) (e' : Int) (m' : Ram) (hok : k.ok) (hc : m.l.length ≤ cap) (hx : enR k m = (k', e', m')) :
    Con Try.prog f_r31_enable [.agg k.sv, .s (.sl 0 0 m.l.length cap)] [.view (bytesI m.l)] (RES m m' k' e') := by
  intro K hK
  have h3i : I32 (-3) := i32B_ok (by decide)
  refine enter fn_r31_enable rfl nt_r31_enable rfl rfl (fun φ w0 β0 F => ?_)
  refine c_run tt_ok ctRCh_ok k_r31_enable [] 60 (by kernel_rfl) ?_
  refine ⟨m, ⟨rfl, rfl, hok.b⟩, fun h => ?_, fun h => ⟨fun h2 => ?_, fun h2 => ⟨trivial, fun h3 => ?_, fun h3 => ?_⟩⟩⟩
  · have hb := err_bad h
    simp only [enR, hb, cond_true] at hx
    cases hx
    refine WpE.into (aliasSlot 5 0 0 m.l.length cap rfl rfl) ?_
    refine fin_k tt_ok (rs := rs_r31_enable) rfl rfl (hK cap hc) [0, 3] rfl ?_ rfl rfl rfl rfl
    rw [seg_all]; rfl
  · have hb := err_ok h
    simp only [enR, hb, h2, cond_true, cond_false] at hx
    refine c_ways tt_ok ctRCh_ok k_r31_enable rfl rfl ?_
    repeat' (first | exact trivial | (refine ⟨(m, k', e', m'), ⟨rfl, rfl, hok.b, hc, hx⟩, fun c h1 => ?_⟩) | (refine And.intro ?_ ?_))
    all_goals
      refine e_run tt_ok ctRCh_ok k_r31_enable [] 60 (by kernel_rfl) ?_
      refine fin_k tt_ok (rs := rs_r31_enable) rfl rfl (hK c (by assumption)) [0, 3] rfl rfl rfl rfl rfl rfl
  · have hb := err_ok h
    simp only [enR, hb, h2, show (m.word k.b == ownAt k.wptr k.pri) = true from h3, cond_true, cond_false] at hx
    cases hx
    refine WpE.into (aliasSlot 5 0 0 m.l.length cap rfl rfl) ?_
    refine fin_k tt_ok (rs := rs_r31_enable) rfl rfl (hK cap hc) [0, 3] rfl ?_ rfl rfl rfl rfl
    rw [seg_all]; rfl
  · have hb := err_ok h
    simp only [enR, hb, h2, show (m.word k.b == ownAt k.wptr k.pri) = false from h3, cond_false] at hx
    refine c_ways tt_ok ctRCh_ok k_r31_enable rfl rfl ?_
    repeat' (first | exact trivial | exact ⟨hok.wptr, h3i⟩ | (refine ⟨(m, k', e', m'), ⟨rfl, rfl, I32_wrap _, hc, hx⟩, fun c h1 => ?_⟩) | (refine And.intro ?_ ?_))
    all_goals
      refine e_run tt_ok ctRCh_ok k_r31_enable [] 60 (by kernel_rfl) ?_
      refine fin_k tt_ok (rs := rs_r31_enable) rfl rfl (hK c (by assumption)) [0, 3] rfl rfl rfl rfl rfl rfl
end Go.Proofs

namespace Go.Proofs
open Go Go.Sx
set_option maxRecDepth 10000
noncomputable abbrev ctRVa : CT := [(f_r03_Index, .pure spIndex), (f_r03_Lies, .pure spLies)]
theorem ctRVa_ok : CTok Try.prog ctRVa := ⟨ceIndex, ceLies, trivial⟩
theorem RValid_c (m : Ram) (cap : Nat) (w : Int) (hw : I32 w) : Con Try.prog f_r29_Valid [.s (.sl 0 0 m.l.length cap), .s (.int .i32 w)] [.view (bytesI m.l)] (.ret (.t (.s (.bool (validB m w)))) [.view (bytesI m.l)]) := by
  intro K hK
  have h0 := m.lo
  have h1 := m.hi
  refine enter fn_r29_Valid rfl nt_r29_Valid rfl rfl (fun φ w0 β0 F => ?_)
  refine c_run tt_ok ctRVa_ok k_r29_Valid [] 60 (by kernel_rfl) ?_
  refine ⟨fun _ => hw, fun _ => ⟨by omega, by omega, hw⟩, ?_⟩
  refine fin_k tt_ok (rs := rs_r29_Valid) rfl rfl hK [0] (t1b ?_) rfl rfl rfl rfl rfl
  have e : (w.tmod 4 == 0) = (w % 4 == 0) := by
    unfold I32 at hw
    have : w.tmod 4 = w % 4 ∨ (w < 0 ∧ w.tmod 4 = -((-w) % 4)) := by
      rcases Int.lt_or_le w 0 with h | h
      · exact .inr ⟨h, (tmod4 w).2 h⟩
      · exact .inl ((tmod4 w).1 h)
    rw [Bool.eq_iff_iff]
    simp only [beq_iff_eq]
    omega
  rw [e]
  unfold validB liesB
  cases hA : (bif w % 4 == 0 then decide (ofAt w ≥ 20) else false)
  · rfl
  · have : ofAt w ≥ 20 := by
      cases h4 : (w % 4 == 0) <;> simp [h4] at hA
      exact hA
    simp only [cond_true]
    rw [Bool.eq_iff_iff]
    simp
    omega
noncomputable abbrev eRValid : Ent := .st (conS (P := Try.prog) (f := f_r29_Valid) fun cargs σ0 => match cargs, σ0 with
  | [.s (.sl 0 0 n cap), .s (.int .i32 w)], [.view xs] => some ⟨.ex Ram fun m => .ask (n = m.l.length ∧ xs = bytesI m.l ∧ I32 w) (.ret (.t (.s (.bool (validB m w)))) [.view (bytesI m.l)]), fun K h => by
      obtain ⟨m, ⟨e1, e2, h1⟩, h⟩ := h
      subst e1; subst e2
      exact RValid_c m cap w h1 K h⟩
  | _, _ => none)
theorem RNobody_c (k : Core) : Con Try.prog f_r29_Nobody [.agg k.sv] [] (.ret (.t (.agg k.nobody.sv)) []) := by
  intro K hK
  refine enter fn_r29_Nobody rfl nt_r29_Nobody rfl rfl (fun φ w0 β0 F => ?_)
  refine c_run tt_ok (ct := []) trivial k_r29_Nobody [] 60 (by kernel_rfl) ?_
  exact fin_k tt_ok (rs := rs_r29_Nobody) rfl rfl hK [] rfl rfl rfl rfl rfl rfl
def spRNobody : List TV → Option (Prop × FV)
  | [.agg cs] => withCore cs fun k _ => some (True, .t (.agg k.nobody.sv))
  | _ => none
theorem ceRNobody : CEok Try.prog f_r29_Nobody spRNobody := ⟨cal_r29_Nobody, fun args p v h hp => by
  unfold spRNobody at h; split at h
  · obtain ⟨k, hk, h⟩ := withCore_some h
    cases h; subst hk; exact (RNobody_c _).pure
  · cases h⟩
theorem RSet_c (m : Ram) (cap : Nat) (w k v : Int) (hc : m.l.length ≤ cap) : Con Try.prog f_r29_Set [.s (.sl 0 0 m.l.length cap), .s (.int .i32 w), .s (.int .i32 k), .s (.int .i32 v)] [.view (bytesI m.l)]
    (.all Nat (fun c => m.l.length ≤ c) fun c => .ret (.t (.s (.sl 1 0 (m.set (IntKind.i32.wrap (w + IntKind.i32.wrap (4 * k))) v).l.length c))) [.view (bytesI m.l), .view (bytesI (m.set (IntKind.i32.wrap (w + IntKind.i32.wrap (4 * k))) v).l)]) := by
  intro K hK
  refine enter fn_r29_Set rfl nt_r29_Set rfl rfl (fun φ w0 β0 F => ?_)
  refine c_run tt_ok ctRSt_ok k_r29_Set [] 60 (by kernel_rfl) ?_
  refine ⟨m, ⟨rfl, rfl, I32_wrap _, hc⟩, fun c h1 => ?_⟩
  exact fin_k tt_ok (rs := rs_r29_Set) rfl rfl (hK c h1) [0, 1] rfl rfl rfl rfl rfl rfl
noncomputable abbrev eRSet : Ent := .st (conS (P := Try.prog) (f := f_r29_Set) fun cargs σ0 => match cargs, σ0 with
  | [.s (.sl 0 0 n cap), .s (.int .i32 w), .s (.int .i32 k), .s (.int .i32 v)], [.view xs] => some ⟨.ex Ram fun m => .ask (n = m.l.length ∧ xs = bytesI m.l ∧ m.l.length ≤ cap)
      (.all Nat (fun c => m.l.length ≤ c) fun c => .ret (.t (.s (.sl 1 0 (m.set (IntKind.i32.wrap (w + IntKind.i32.wrap (4 * k))) v).l.length c))) [.view (bytesI m.l), .view (bytesI (m.set (IntKind.i32.wrap (w + IntKind.i32.wrap (4 * k))) v).l)]), fun K h => by
      obtain ⟨m, ⟨e1, e2, h1⟩, h⟩ := h
      subst e1; subst e2
      exact RSet_c m cap w k v h1 K h⟩
  | _, _ => none)
def waR (k : Core) (m : Ram) : Core × Int × Ram := bif !k.busy then (.zero, 8, m) else bif !validB m k.wptr then (.zero, 4, m) else (k.nobody, 0, m.set (IntKind.i32.wrap (k.wptr + -4)) k.iptr)
noncomputable abbrev ctRWt : CT := [(f_r29_Valid, eRValid), (f_r29_Nobody, .pure spRNobody), (f_r29_Set, eRSet)]
theorem ctRWt_ok : CTok Try.prog ctRWt := ⟨con_ok cal_r29_Valid _, ceRNobody, con_ok cal_r29_Set _, trivial⟩
set_option maxHeartbeats 4000000 in
theorem RWait_c (k : Core) (m : Ram) (cap : Nat) (k' : Core) (e' : Int) (m' : Ram) (hok : k.ok) (hc : m.l.length ≤ cap) (hx : waR k m = (k', e', m')) :
    Con Try.prog f_r29_Wait [.agg k.sv, .s (.sl 0 0 m.l.length cap)] [.view (bytesI m.l)] (RES m m' k' e') := by
  intro K hK
  refine enter fn_r29_Wait rfl nt_r29_Wait rfl rfl (fun φ w0 β0 F => ?_)
  refine c_run tt_ok ctRWt_ok k_r29_Wait [] 60 (by kernel_rfl) ?_
  refine ⟨fun h => ?_, fun h => ⟨m, ⟨rfl, rfl, hok.wptr⟩, fun h2 => ?_, fun h2 => ?_⟩⟩
  · simp only [waR, h, cond_true] at hx
    cases hx
    refine WpE.into (aliasSlot 5 0 0 m.l.length cap rfl rfl) ?_
    refine fin_k tt_ok (rs := rs_r29_Wait) rfl rfl (hK cap hc) [0, 3] rfl ?_ rfl rfl rfl rfl
    rw [seg_all]; rfl
  · simp only [waR, h, h2, cond_true, cond_false] at hx
    cases hx
    refine WpE.into (aliasSlot 5 0 0 m.l.length cap rfl rfl) ?_
    refine fin_k tt_ok (rs := rs_r29_Wait) rfl rfl (hK cap hc) [0, 3] rfl ?_ rfl rfl rfl rfl
    rw [seg_all]; rfl
  · simp only [waR, h, h2, cond_false] at hx
    cases hx
    refine c_ways tt_ok ctRWt_ok k_r29_Wait rfl rfl ?_
    repeat' (first | exact trivial | (refine ⟨m, ⟨rfl, rfl, hc⟩, fun c h1 => ?_⟩) | (refine And.intro ?_ ?_))
    all_goals
      refine e_run tt_ok ctRWt_ok k_r29_Wait [] 60 (by kernel_rfl) ?_
      refine fin_k tt_ok (rs := rs_r29_Wait) rfl rfl (hK c (by rw [set_len]; assumption)) [0, 3] rfl rfl rfl rfl rfl rfl
end Go.Proofs

namespace Go.Proofs
open Go Go.Sx
set_option maxRecDepth 10000
noncomputable abbrev eRWait29 : Ent := .st (conS (P := Try.prog) (f := f_r29_Wait) fun cargs σ0 => match cargs, σ0 with
  | [.agg cs, .s (.sl 0 0 n cap)], [.view xs] => withCore cs fun k hk => some ⟨.ex (Ram × Core × Int × Ram) fun p => .ask (n = p.1.l.length ∧ xs = bytesI p.1.l ∧ k.ok ∧ p.1.l.length ≤ cap ∧ waR k p.1 = p.2)
      (RES p.1 p.2.2.2 p.2.1 p.2.2.1), fun K h => by
      obtain ⟨⟨m, k', e', m'⟩, ⟨e1, e2, h1, h2, h3⟩, h⟩ := h
      dsimp only at e1 e2 h1 h2 h3 h
      subst e1; subst e2; subst hk
      exact RWait_c k m cap k' e' m' h1 h2 h3 K h⟩
  | _, _ => none)
noncomputable abbrev ctRWw : CT := [(f_r03_Word, eRWordT), (f_r03_SetWord, eRSetWordT), (f_r31_at, .pure spRat), (f_r29_Wait, eRWait29)]
theorem ctRWw_ok : CTok Try.prog ctRWw := ⟨con_ok cal_r03_Word _, con_ok cal_r03_SetWord _, ceRat, con_ok cal_r29_Wait _, trivial⟩
/-- The memory that a process leaves that waits. -/
def wtM (k : Core) (m : Ram) : Ram := (m.set k.wptr (-1)).set (stAt k.wptr) (-2147483646)
def wtR (k : Core) (m : Ram) : Core × Int × Ram := bif (bif m.err (stAt k.wptr) != 0 then true else m.err k.wptr != 0) then (.zero, 4, m) else bif m.word (stAt k.wptr) == -2147483645 then (k, 0, m.set k.wptr (-1))
  else bif (waR k (wtM k m)).2.1 != 0 then (.zero, 4, m) else ((waR k (wtM k m)).1, 0, (waR k (wtM k m)).2.2)
theorem Rwait_c (k : Core) (m : Ram) (cap : Nat) (k' : Core) (e' : Int) (m' : Ram) (hok : k.ok) (hc : m.l.length ≤ cap) (hx : wtR k m = (k', e', m')) :
    Con Try.prog f_r31_wait [.agg k.sv, .s (.sl 0 0 m.l.length cap)] [.view (bytesI m.l)] (RES m m' k' e') := by
  intro K hK
  have h3i : I32 (-3) := i32B_ok (by decide)
  refine enter fn_r31_wait rfl nt_r31_wait rfl rfl (fun φ w0 β0 F => ?_)
  refine c_run tt_ok ctRWw_ok k_r31_wait [] 60 (by kernel_rfl) ?_
  refine ⟨⟨hok.wptr, h3i⟩, m, ⟨rfl, rfl, I32_wrap _⟩, m, ⟨rfl, rfl, hok.wptr, hc⟩, fun c h1 => ⟨fun h => ?_, fun h => ⟨fun h2 => ?_, fun h2 => ?_⟩⟩⟩
  · simp only [wtR, show (bif m.err (stAt k.wptr) != 0 then true else m.err k.wptr != 0) = true from h, cond_true] at hx
    cases hx
    refine WpE.into (aliasSlot 5 0 0 m.l.length cap rfl rfl) ?_
    refine fin_k tt_ok (rs := rs_r31_wait) rfl rfl (hK cap hc) [0, 4] rfl ?_ rfl rfl rfl rfl
    rw [seg_all]; rfl
  · simp only [wtR, show (bif m.err (stAt k.wptr) != 0 then true else m.err k.wptr != 0) = false from h, show (m.word (stAt k.wptr) == -2147483645) = true from h2, cond_true, cond_false] at hx
    cases hx
    refine fin_k tt_ok (rs := rs_r31_wait) rfl rfl (hK c (by rw [set_len]; exact h1)) [0, 3] rfl rfl rfl rfl rfl rfl
  · simp only [wtR, show (bif m.err (stAt k.wptr) != 0 then true else m.err k.wptr != 0) = false from h, show (m.word (stAt k.wptr) == -2147483645) = false from h2, cond_false] at hx
    refine ⟨⟨hok.wptr, h3i⟩, m.set k.wptr (-1), ⟨rfl, rfl, I32_wrap _, by rw [set_len]; exact h1⟩, fun c2 h3 => ?_⟩
    rcases hw : waR k (wtM k m) with ⟨k2, e2, m2⟩
    simp only [hw] at hx
    refine ⟨(wtM k m, k2, e2, m2), ⟨rfl, rfl, hok, by simpa [wtM, set_len] using h3, hw⟩, fun c3 h4 => ⟨fun h5 => ?_, fun h5 => ?_⟩⟩
    · simp only [show (e2 != 0) = true from h5, cond_true] at hx
      cases hx
      refine WpE.into (aliasSlot 5 0 0 m.l.length cap rfl rfl) ?_
      refine fin_k tt_ok (rs := rs_r31_wait) rfl rfl (hK cap hc) [0, 7] rfl ?_ rfl rfl rfl rfl
      rw [seg_all]; rfl
    · simp only [show (e2 != 0) = false from h5, cond_false] at hx
      cases hx
      exact fin_k tt_ok (rs := rs_r31_wait) rfl rfl (hK c3 h4) [0, 5] rfl rfl rfl rfl rfl rfl
/-! What alt.Exec computes is what the reference computes: no program in sight. -/
theorem getD_ext {a b : List Int} (hl : a.length = b.length) (h : ∀ j, a.getD j 0 = b.getD j 0) : a = b := by
  apply List.ext_getElem hl
  intro j h1 h2
  have := h j
  simpa [h1, h2] using this
theorem set_comm (m : Ram) (a b u v : Int) (ia : I32 a) (ib : I32 b) (h : wAt a ≠ wAt b) : (m.set a u).set b v = (m.set b v).set a u := by
  cases ha : wBad m a with
  | true => rw [set_bad ha, set_bad (m := m.set b v) (by rw [set_wBad]; exact ha)]
  | false =>
    cases hb : wBad m b with
    | true => rw [set_bad hb, set_bad (m := m.set a u) (by rw [set_wBad]; exact hb)]
    | false =>
      have hA := wBad_nat ha
      have hB := wBad_nat hb
      apply Ram.ext
      rw [set_ok (m := m.set a u) (by rw [set_wBad]; exact hb), set_ok (m := m.set b v) (by rw [set_wBad]; exact ha), set_ok ha, set_ok hb]
      have hl1 : (setW m.l (ofAt (wAt a)).toNat u).length = m.l.length := stW_length hA 4 (by decide)
      have hl2 : (setW m.l (ofAt (wAt b)).toNat v).length = m.l.length := stW_length hB 4 (by decide)
      apply getD_ext
      · show (stW _ _ _ _).length = (stW _ _ _ _).length
        rw [stW_length (by rw [hl1]; exact hB) 4 (by decide), stW_length (by rw [hl2]; exact hA) 4 (by decide), hl1, hl2]
      · intro j
        have e1 := stW_get (l := setW m.l (ofAt (wAt a)).toNat u) (v := v) (by rw [hl1]; exact hB) 4 (by decide) j
        have e2 := stW_get (l := setW m.l (ofAt (wAt b)).toNat v) (v := u) (by rw [hl2]; exact hA) 4 (by decide) j
        have e3 := stW_get (v := u) hA 4 (by decide) j
        have e4 := stW_get (v := v) hB 4 (by decide) j
        unfold setW at *
        rw [e1, e2, e3, e4]
        have hne : (ofAt (wAt a)).toNat + 4 ≤ (ofAt (wAt b)).toNat ∨ (ofAt (wAt b)).toNat + 4 ≤ (ofAt (wAt a)).toNat := by
          unfold I32 at ia ib
          unfold ofAt wAt at *
          omega
        split <;> split <;> first | rfl | omega
theorem eOr0 (e : Int) : eOr 0 e = e := rfl
theorem finR_st (k : Core) (m : Ram) (a v : Int) : finR (Mach.of k (emStore 0 m a v)) = stR k m a v := by
  cases hb : wBad m a with
  | true => simp [finR, Mach.of, emStore, stR, hb, Ram.err, eOr0, set_bad hb, kSel_t]
  | false => simp [finR, Mach.of, emStore, stR, hb, Ram.err, eOr0, kSel_f]
theorem finR_z (k : Core) (m : Ram) : finR (Mach.of k (0, m)) = (k, 0, m) := by simp [finR, Mach.of, kSel_f]
theorem ex_alt (k : Core) (m : Ram) : finR (Mach.alt ⟨k, 0, m⟩) = stR k m (stAt k.wptr) (-2147483647) := finR_st k m _ _
theorem ex_enbs (k : Core) (m : Ram) : finR (Mach.enbs ⟨k, 0, m⟩) = bif k.a != 0 then stR k m (stAt k.wptr) (-2147483645) else (k, 0, m) := by
  simp only [Mach.enbs, enbsY]
  cases k.a != 0
  · exact finR_z k m
  · exact finR_st k m _ _
theorem ex_enbc (k : Core) (m : Ram) : finR (Mach.enbc ⟨k, 0, m⟩) = bif k.a != 0 then enR k m else ({ k with b := k.c }, 0, m) := by
  simp only [Mach.enbc, enbcY, enR]
  cases h0 : k.a == 0
  · simp only [show (k.a != 0) = true by simp [bne, h0], cond_true, cond_false, eOr0]
    cases hb : wBad m k.b with
    | true =>
      have hw : m.word k.b = 0 := by simp [Ram.word, hb]
      have he : m.err k.b = 4 := by simp [Ram.err, hb]
      have hs : ∀ v, emStore 4 m k.b v = (4, m) := fun v => by simp [emStore, eOr]
      have hs2 : ∀ v, emStore 4 m (stAt k.wptr) v = (4, m) := fun v => by simp [emStore, eOr]
      simp only [hw, he, hs, hs2, show ((0 : Int) == -2147483648) = false by decide, cond_true, cond_false]
      cases (0 == ownAt k.wptr k.pri) <;> simp [finR, Mach.of, kSel_t]
    | false =>
      have he : m.err k.b = 0 := by simp [Ram.err, hb]
      simp only [he, cond_false]
      cases m.word k.b == -2147483648
      · simp only [cond_false]
        cases m.word k.b == ownAt k.wptr k.pri
        · exact finR_st { k with b := k.c } m _ _
        · exact finR_z { k with b := k.c } m
      · exact finR_st { k with b := k.c } m _ _
  · simp only [show (k.a != 0) = false by simp [bne, h0], cond_true, cond_false]
    exact finR_z { k with b := k.c } m
theorem ex_altend (k : Core) (m : Ram) : finR (Mach.altend ⟨k, 0, m⟩) = bif wBad m k.wptr then (.zero, 4, m) else ({ k with iptr := IntKind.i32.wrap (k.iptr + m.word k.wptr) }, 0, m) := by
  cases hb : wBad m k.wptr with
  | true => simp [Mach.altend, finR, eOr0, Ram.err, hb, kSel_t]
  | false => simp [Mach.altend, finR, eOr0, Ram.err, hb, kSel_f]
theorem ex_choose (k : Core) (m : Ram) (k2 : Core) (hw : k2.wptr = k.wptr) (ha : k2.a = k.a) : finR (Mach.of { k2 with a := bif m.word k.wptr == -1 then 1 else 0 } (chooseY k.wptr k.a 0 m)) = chR k2 m := by
  simp only [chooseY, chR, hw, ha, eOr0]
  cases hb : wBad m k.wptr with
  | true =>
    have hw : m.word k.wptr = 0 := by simp [Ram.word, hb]
    have he : m.err k.wptr = 4 := by simp [Ram.err, hb]
    simp [hw, he, finR, Mach.of, kSel_t]
  | false =>
    have he : m.err k.wptr = 0 := by simp [Ram.err, hb]
    simp only [he, cond_false]
    cases h1 : m.word k.wptr == -1
    · simp only [show (m.word k.wptr != -1) = true by simp [bne, h1], cond_true, cond_false]
      exact finR_z _ m
    · simp only [show (m.word k.wptr != -1) = false by simp [bne, h1], cond_true, cond_false]
      exact finR_st _ m _ _
theorem ex_diss (k : Core) (m : Ram) : finR (Mach.diss ⟨k, 0, m⟩) = bif k.b != 0 then chR { k with b := k.c } m else ({ k with a := 0, b := k.c }, 0, m) := by
  simp only [Mach.diss]
  cases k.b != 0
  · exact finR_z _ m
  · exact ex_choose k m { k with b := k.c } rfl rfl
theorem ex_disc (k : Core) (m : Ram) : finR (Mach.disc ⟨k, 0, m⟩) = bif k.b != 0 then disR { k with b := 0, c := 0 } m k.c else ({ k with a := 0, b := 0, c := 0 }, 0, m) := by
  simp only [Mach.disc, discA, discY, disR]
  cases h0 : k.b == 0
  · simp only [show (k.b != 0) = true by simp [bne, h0], cond_true, cond_false, eOr0]
    cases hb : wBad m k.c with
    | true =>
      have hw : m.word k.c = 0 := by simp [Ram.word, hb]
      have he : m.err k.c = 4 := by simp [Ram.err, hb]
      have hs : ∀ v, emStore 4 m k.c v = (4, m) := fun v => by simp [emStore, eOr]
      have hs2 : chooseY k.wptr k.a 4 m = (4, m) := by simp [chooseY, emStore, eOr]
      simp only [hw, he, hs, hs2, show ((0 : Int) == -2147483648) = false by decide, cond_true, cond_false]
      cases (0 == ownAt k.wptr k.pri) <;> simp [finR, Mach.of, kSel_t]
    | false =>
      have he : m.err k.c = 0 := by simp [Ram.err, hb]
      simp only [he, cond_false]
      cases h1 : m.word k.c == ownAt k.wptr k.pri
      · simp only [show (m.word k.c != ownAt k.wptr k.pri) = true by simp [bne, h1], cond_false]
        cases h2 : m.word k.c == -2147483648
        · simp only [show (m.word k.c != -2147483648) = true by simp [bne, h2], cond_true, cond_false]
          exact ex_choose k m { k with b := 0, c := 0 } rfl rfl
        · simp only [show (m.word k.c != -2147483648) = false by simp [bne, h2], cond_true, cond_false]
          exact finR_z _ m
      · simp only [show (m.word k.c != ownAt k.wptr k.pri) = false by simp [bne, h1], cond_true]
        cases m.word k.c != -2147483648 <;> exact finR_st _ m _ _
  · simp only [show (k.b != 0) = false by simp [bne, h0], cond_true, cond_false]
    exact finR_z _ m
theorem finR_err (k : Core) (m : Ram) (e : Int) (he : (e != 0) = true) : finR (Mach.of k (e, m)) = (.zero, 4, m) := by simp only [finR, Mach.of, he, cond_true, kSel_t]
theorem waitE_valid {k : Core} {m : Ram} (h : (waitE k m != 0) = false) : k.busy = true ∧ k.wptr % 4 = 0 ∧ ofAt k.wptr ≥ 20 ∧ ofAt k.wptr + 4 ≤ m.l.length := by
  unfold waitE at h
  cases hb : k.busy with
  | false => simp [hb] at h
  | true =>
    simp only [hb, Bool.not_true, cond_false] at h
    cases hv : validB m k.wptr with
    | false => simp [hv] at h
    | true =>
      unfold validB at hv
      cases h1 : (k.wptr % 4 == 0)
      · simp [h1] at hv
      · cases h2 : decide (ofAt k.wptr ≥ 20)
        · simp [h1, h2] at hv
        · simp only [h1, h2, cond_true] at hv
          exact ⟨rfl, by simpa using h1, of_decide_eq_true h2, of_decide_eq_true hv⟩
theorem ex_altwt (k : Core) (m : Ram) (hw : I32 k.wptr) : finR (Mach.altwt ⟨k, 0, m⟩) = wtR k m := by
  simp only [Mach.altwt, altwtY, awGo, wtR, eOr0]
  cases hs : wBad m (stAt k.wptr) with
  | true =>
    have h1 : m.word (stAt k.wptr) = 0 := by simp [Ram.word, hs]
    have h2 : m.err (stAt k.wptr) = 4 := by simp [Ram.err, hs]
    simp [h1, h2, finR, Mach.of, kSel_t, kSel_f]
  | false =>
    have h2 : m.err (stAt k.wptr) = 0 := by simp [Ram.err, hs]
    simp only [h2, show ((0 : Int) != 0) = false by decide, cond_false, Bool.not_false, Bool.true_and]
    cases h1 : m.word (stAt k.wptr) == -2147483645
    · simp only [Bool.not_false, Bool.true_and, cond_false]
      have hlen : (wtM k m).l.length = m.l.length := by simp [wtM, set_len]
      cases hE : waitE k m != 0
      · obtain ⟨hbz, h4, h20, hle⟩ := waitE_valid hE
        have hst : stAt k.wptr = k.wptr - 12 := by unfold stAt ofAt at *; unfold I32 at hw; rw [IntKind.wrap_i32]; omega
        have hip : IntKind.i32.wrap (k.wptr + -4) = k.wptr - 4 := by unfold ofAt at *; unfold I32 at hw; rw [IntKind.wrap_i32]; omega
        have hnb : wBad m k.wptr = false := by
          unfold wBad spanBad ofAt wAt at *
          rw [show decide (k.wptr - k.wptr % 4 + 2147483648 ≥ (m.l.length : Int)) = false by simp; omega]
          simp; omega
        have hE0 : waitE k m = 0 := by simpa using hE
        have hvv : validB m k.wptr = true := by
          unfold waitE at hE0; rw [hbz] at hE0
          cases hv : validB m k.wptr with
          | true => rfl
          | false => simp [hv] at hE0
        have hvv' : validB (wtM k m) k.wptr = true := by unfold validB at *; rw [hlen]; exact hvv
        have he1 : m.err k.wptr = 0 := by simp [Ram.err, hnb]
        have hwa : waR k (wtM k m) = (k.nobody, 0, (wtM k m).set (IntKind.i32.wrap (k.wptr + -4)) k.iptr) := by simp only [waR, hbz, hvv', Bool.not_true, cond_false]
        have hwk : waitK k m = k.nobody := by simp [waitK, hE0, kSel_t]
        have hwm : waitM k m = m.set (IntKind.i32.wrap (k.wptr + -4)) k.iptr := by simp [waitM, hE0]
        have hee : ((waitM k m).err k.wptr) = 0 := by rw [hwm, set_err]; exact he1
        have hes : ∀ x, ((m.set x k.iptr).set k.wptr (-1)).err (stAt k.wptr) = 0 := fun x => by rw [set_err, set_err]; exact h2
        simp only [he1, show ((0 : Int) != 0) = false by decide, cond_false, Bool.not_false, kSel_t, hwk, emStore, eOr0, hee, hwa, show ((0 : Int) == 0) = true by decide, cond_true]
        rw [hwm, hes]
        rw [show (((m.set (IntKind.i32.wrap (k.wptr + -4)) k.iptr).set k.wptr (-1)).set (stAt k.wptr) (-2147483646)) = (wtM k m).set (IntKind.i32.wrap (k.wptr + -4)) k.iptr by
          have i1 : I32 (IntKind.i32.wrap (k.wptr + -4)) := I32_wrap _
          have i2 : I32 (stAt k.wptr) := I32_wrap _
          rw [set_comm m (IntKind.i32.wrap (k.wptr + -4)) k.wptr k.iptr (-1) i1 hw (by rw [hip]; unfold wAt; omega)]
          rw [set_comm (m.set k.wptr (-1)) (IntKind.i32.wrap (k.wptr + -4)) (stAt k.wptr) k.iptr (-2147483646) i1 i2 (by rw [hip, hst]; unfold wAt; omega)]
          rfl]
        exact finR_z _ _
      · have hm : waitM k m = m := by
          unfold waitM; cases h0 : waitE k m == 0
          · rfl
          · simp [bne, h0] at hE
        have hw2 : ((waR k (wtM k m)).2.1 != 0) = true := by
          unfold waR
          unfold waitE at hE
          have hvv : validB (wtM k m) k.wptr = validB m k.wptr := by unfold validB; rw [hlen]
          rw [hvv]
          cases hb : k.busy
          · simp
          · cases hv : validB m k.wptr
            · simp
            · simp [hb, hv] at hE
        simp only [Bool.not_true, kSel_f, cond_true, hw2, hm]
        rw [finR_err k m _ hE]
        cases m.err k.wptr != 0 <;> rfl
    · simp only [Bool.not_true, Bool.false_and, kSel_f, cond_true]
      rw [finR_st]
      unfold stR
      cases hb : wBad m k.wptr <;> simp [Ram.err, hb]
end Go.Proofs

namespace Go.Proofs
open Go Go.Sx
set_option maxRecDepth 10000
noncomputable abbrev eREnable : Ent := .st (conS (P := Try.prog) (f := f_r31_enable) fun cargs σ0 => match cargs, σ0 with
  | [.agg cs, .s (.sl 0 0 n cap)], [.view xs] => withCore cs fun k hk => some ⟨.ex (Ram × Core × Int × Ram) fun p => .ask (n = p.1.l.length ∧ xs = bytesI p.1.l ∧ k.ok ∧ p.1.l.length ≤ cap ∧ enR k p.1 = p.2)
      (RES p.1 p.2.2.2 p.2.1 p.2.2.1), fun K h => by
      obtain ⟨⟨m, k', e', m'⟩, ⟨e1, e2, h1, h2, h3⟩, h⟩ := h
      dsimp only at e1 e2 h1 h2 h3 h
      subst e1; subst e2; subst hk
      exact Renable_c k m cap k' e' m' h1 h2 h3 K h⟩
  | _, _ => none)
noncomputable abbrev eRWaitA : Ent := .st (conS (P := Try.prog) (f := f_r31_wait) fun cargs σ0 => match cargs, σ0 with
  | [.agg cs, .s (.sl 0 0 n cap)], [.view xs] => withCore cs fun k hk => some ⟨.ex (Ram × Core × Int × Ram) fun p => .ask (n = p.1.l.length ∧ xs = bytesI p.1.l ∧ k.ok ∧ p.1.l.length ≤ cap ∧ wtR k p.1 = p.2)
      (RES p.1 p.2.2.2 p.2.1 p.2.2.1), fun K h => by
      obtain ⟨⟨m, k', e', m'⟩, ⟨e1, e2, h1, h2, h3⟩, h⟩ := h
      dsimp only at e1 e2 h1 h2 h3 h
      subst e1; subst e2; subst hk
      exact Rwait_c k m cap k' e' m' h1 h2 h3 K h⟩
  | _, _ => none)
noncomputable abbrev eRDisable : Ent := .st (conS (P := Try.prog) (f := f_r31_disable) fun cargs σ0 => match cargs, σ0 with
  | [.agg cs, .s (.sl 0 0 n cap), .s (.int .i32 ch)], [.view xs] => withCore cs fun k hk => some ⟨.ex (Ram × Core × Int × Ram) fun p => .ask (n = p.1.l.length ∧ xs = bytesI p.1.l ∧ (k.ok ∧ I32 ch) ∧ p.1.l.length ≤ cap ∧ disR k p.1 ch = p.2)
      (RES p.1 p.2.2.2 p.2.1 p.2.2.1), fun K h => by
      obtain ⟨⟨m, k', e', m'⟩, ⟨e1, e2, ⟨h1, h4⟩, h2, h3⟩, h⟩ := h
      dsimp only at e1 e2 h1 h2 h3 h
      subst e1; subst e2; subst hk
      exact Rdisable_c k m cap ch k' e' m' h1 h4 h2 h3 K h⟩
  | _, _ => none)
noncomputable abbrev ctRE : CT := [(f_r03_Word, eRWordT), (f_r01_Wrap, .pure spRWrap), (f_r31_Mine, .pure spRMine), (f_r31_linked, .pure spRlinked), (f_r31_at, .pure spRat), (f_r31_store, eRStore), (f_r31_choose, eRChoose), (f_r31_enable, eREnable), (f_r31_wait, eRWaitA), (f_r31_disable, eRDisable)]
theorem ctRE_ok : CTok Try.prog ctRE := ⟨con_ok cal_r03_Word _, ceRWrap, ceRMine, ceRlinked, ceRat, con_ok cal_r31_store _, con_ok cal_r31_choose _, con_ok cal_r31_enable _, con_ok cal_r31_wait _, con_ok cal_r31_disable _, trivial⟩
theorem pri_ref (p : Int) : (bif p != 0 then p != 1 else false) = (p.fdiv 2 != 0) := by
  have e : p.fdiv 2 = p / 2 := Int.fdiv_eq_ediv_of_nonneg _ (by omega)
  rw [e, Bool.eq_iff_iff]
  cases h0 : (p != 0)
  · simp at h0; subst h0; simp
  · simp at h0
    simp
    omega
theorem link_ref (k : Core) (o : Int) : (bif (bif !k.busy then true else (bif (bif o == 72 then k.a != 0 else false) then decide (k.b < -2147483616) else false)) then true else (bif (bif o == 47 then k.b != 0 else false) then decide (k.c < -2147483616) else false)) = (bif !k.busy then true else linkedB k o) := by
  unfold linkedB
  cases k.busy
  · rfl
  · simp only [Bool.not_true, cond_false]
theorem execR_go {k : Core} {m : Ram} {fn o : Int} (h1 : (bif k.pri != 0 then k.pri != 1 else false) = false) (h2 : (!mineB fn o) = false)
    (h3 : (bif (bif !k.busy then true else (bif (bif o == 72 then k.a != 0 else false) then decide (k.b < -2147483616) else false)) then true else (bif (bif o == 47 then k.b != 0 else false) then decide (k.c < -2147483616) else false)) = false) : execR k m fn o = finR (opM k m o) := by
  rw [link_ref] at h3
  rw [pri_ref] at h1
  simp only [execR, h1, h2, h3, cond_false]
set_option maxHeartbeats 4000000 in
theorem RExec_c (k : Core) (m : Ram) (cap : Nat) (fn o : Int) (k' : Core) (e' : Int) (m' : Ram) (hok : k.ok) (hc : m.l.length ≤ cap) (hx : execR k m fn o = (k', e', m')) :
    Con Try.prog f_r31_Exec [.agg k.sv, .s (.sl 0 0 m.l.length cap), .agg [.int .u8 fn, .int .i32 o]] [.view (bytesI m.l)] (RES m m' k' e') := by
  intro K hK
  have h3i : I32 (-3) := i32B_ok (by decide)
  have h0i : I32 0 := i32B_ok (by decide)
  refine enter fn_r31_Exec rfl nt_r31_Exec rfl rfl (fun φ w0 β0 F => ?_)
  refine c_run tt_ok ctRE_ok k_r31_Exec [] 60 (by kernel_rfl) ?_
  refine ⟨fun h1 => ?_, fun h1 => ⟨trivial, fun h2 => ?_, fun h2 => ⟨fun _ => hok.b, fun _ => hok.c, fun h3 => ?_, fun h3 => ?_⟩⟩⟩
  · rw [show execR k m fn o = (.zero, 2, m) by simp only [execR, ← pri_ref, show (bif k.pri != 0 then k.pri != 1 else false) = true from h1, cond_true]] at hx
    cases hx
    refine WpE.into (aliasSlot 7 0 0 m.l.length cap rfl rfl) ?_
    refine fin_k tt_ok (rs := rs_r31_Exec) rfl rfl (hK cap hc) [0, 4] rfl ?_ rfl rfl rfl rfl
    rw [seg_all]; rfl
  · rw [show execR k m fn o = (.zero, 280, m) by simp only [execR, ← pri_ref, show (bif k.pri != 0 then k.pri != 1 else false) = false from h1, h2, cond_true, cond_false]] at hx
    cases hx
    refine WpE.into (aliasSlot 7 0 0 m.l.length cap rfl rfl) ?_
    refine fin_k tt_ok (rs := rs_r31_Exec) rfl rfl (hK cap hc) [0, 4] rfl ?_ rfl rfl rfl rfl
    rw [seg_all]; rfl
  · rw [show execR k m fn o = (.zero, 8, m) by
      have h3' := h3
      rw [link_ref] at h3'
      simp only [execR, ← pri_ref, show (bif k.pri != 0 then k.pri != 1 else false) = false from h1, h2, h3', cond_true, cond_false]] at hx
    cases hx
    refine WpE.into (aliasSlot 7 0 0 m.l.length cap rfl rfl) ?_
    refine fin_k tt_ok (rs := rs_r31_Exec) rfl rfl (hK cap hc) [0, 4] rfl ?_ rfl rfl rfl rfl
    rw [seg_all]; rfl
  · have hgo := execR_go (m := m) h1 h2 h3
    rw [hgo] at hx
    refine ⟨fun g0 => ?_, fun g0 => ⟨fun g1 => ⟨fun i1 => ?_, fun i1 => ?_⟩, fun g1 => ⟨fun g2 => ⟨fun i2 => ?_, fun i2 => ?_⟩, fun g2 => ⟨fun g3 => ?_, fun g3 => ⟨fun g4 => ?_, fun g4 => ⟨fun g5 => ⟨fun i5 => ?_, fun i5 => ?_⟩, fun g5 => ⟨fun i6 => ?_, fun i6 => ?_⟩⟩⟩⟩⟩⟩⟩
    · obtain rfl : o = 67 := by simpa using g0
      replace hx : finR (Mach.alt ⟨k, 0, m⟩) = (k', e', m') := hx
      rw [ex_alt] at hx
      refine c_ways tt_ok ctRE_ok k_r31_Exec rfl rfl ?_
      repeat' (first | exact trivial | exact ⟨hok.wptr, h3i⟩ | (refine ⟨(m, k', e', m'), ⟨rfl, rfl, I32_wrap _, hc, hx⟩, fun c h9 => ?_⟩) | (refine And.intro ?_ ?_))
      all_goals
        refine e_run tt_ok ctRE_ok k_r31_Exec [] 60 (by kernel_rfl) ?_
        refine fin_k tt_ok (rs := rs_r31_Exec) rfl rfl (hK c (by assumption)) [0, 4] rfl rfl rfl rfl rfl rfl
    · obtain rfl : o = 73 := by simpa using g1
      replace hx : finR (Mach.enbs ⟨k, 0, m⟩) = (k', e', m') := hx
      simp only [ex_enbs, i1, cond_true] at hx
      refine c_ways tt_ok ctRE_ok k_r31_Exec rfl rfl ?_
      repeat' (first | exact trivial | exact ⟨hok.wptr, h3i⟩ | (refine ⟨(m, k', e', m'), ⟨rfl, rfl, I32_wrap _, hc, hx⟩, fun c h9 => ?_⟩) | (refine And.intro ?_ ?_))
      all_goals
        refine e_run tt_ok ctRE_ok k_r31_Exec [] 60 (by kernel_rfl) ?_
        refine fin_k tt_ok (rs := rs_r31_Exec) rfl rfl (hK c (by assumption)) [0, 4] rfl rfl rfl rfl rfl rfl
    · obtain rfl : o = 73 := by simpa using g1
      replace hx : finR (Mach.enbs ⟨k, 0, m⟩) = (k', e', m') := hx
      simp only [ex_enbs, i1, cond_false] at hx
      cases hx
      refine WpE.into (aliasSlot 7 0 0 m.l.length cap rfl rfl) ?_
      refine fin_k tt_ok (rs := rs_r31_Exec) rfl rfl (hK cap hc) [0, 4] rfl ?_ rfl rfl rfl rfl
      rw [seg_all]; rfl
    · obtain rfl : o = 72 := by simpa using g2
      replace hx : finR (Mach.enbc ⟨k, 0, m⟩) = (k', e', m') := hx
      simp only [ex_enbc, i2, cond_true] at hx
      refine ⟨(m, k', e', m'), ⟨rfl, rfl, hok, hc, hx⟩, fun c h9 => ?_⟩
      exact fin_k tt_ok (rs := rs_r31_Exec) rfl rfl (hK c h9) [0, 4] rfl rfl rfl rfl rfl rfl
    · obtain rfl : o = 72 := by simpa using g2
      replace hx : finR (Mach.enbc ⟨k, 0, m⟩) = (k', e', m') := hx
      simp only [ex_enbc, i2, cond_false] at hx
      cases hx
      refine WpE.into (aliasSlot 7 0 0 m.l.length cap rfl rfl) ?_
      refine fin_k tt_ok (rs := rs_r31_Exec) rfl rfl (hK cap hc) [0, 4] rfl ?_ rfl rfl rfl rfl
      rw [seg_all]; rfl
    · obtain rfl : o = 68 := by simpa using g3
      replace hx : finR (Mach.altwt ⟨k, 0, m⟩) = (k', e', m') := hx
      rw [ex_altwt k m hok.wptr] at hx
      refine ⟨(m, k', e', m'), ⟨rfl, rfl, hok, hc, hx⟩, fun c h9 => ?_⟩
      exact fin_k tt_ok (rs := rs_r31_Exec) rfl rfl (hK c h9) [0, 4] rfl rfl rfl rfl rfl rfl
    · obtain rfl : o = 69 := by simpa using g4
      replace hx : finR (Mach.altend ⟨k, 0, m⟩) = (k', e', m') := hx
      rw [ex_altend] at hx
      refine ⟨m, ⟨rfl, rfl, hok.wptr⟩, fun h5 => ?_, fun h5 => ?_⟩
      · simp only [err_bad h5, cond_true] at hx
        cases hx
        refine WpE.into (aliasSlot 7 0 0 m.l.length cap rfl rfl) ?_
        refine fin_k tt_ok (rs := rs_r31_Exec) rfl rfl (hK cap hc) [0, 4] rfl ?_ rfl rfl rfl rfl
        rw [seg_all]; rfl
      · simp only [err_ok h5, cond_false] at hx
        cases hx
        refine ⟨⟨i64_lo _, i64_hi _⟩, ?_⟩
        have e : IntKind.i32.wrap (IntKind.i64.wrap (IntKind.i64.wrap k.iptr + IntKind.i64.wrap (m.word k.wptr))) = IntKind.i32.wrap (k.iptr + m.word k.wptr) := by
          simp only [IntKind.wrap_i32, IntKind.wrap_i64]; omega
        refine WpE.into (aliasSlot 7 0 0 m.l.length cap rfl rfl) ?_
        refine fin_k tt_ok (rs := rs_r31_Exec) rfl rfl (hK cap hc) [0, 4] ?_ ?_ rfl rfl rfl rfl
        · rw [← e]; rfl
        · rw [seg_all]; rfl
    · obtain rfl : o = 48 := by simpa using g5
      replace hx : finR (Mach.diss ⟨k, 0, m⟩) = (k', e', m') := hx
      simp only [ex_diss, i5, cond_true] at hx
      refine ⟨(m, k', e', m'), ⟨rfl, rfl, ⟨hok.1, hok.3, hok.3, hok.4, hok.5, hok.6, hok.7, hok.8, hok.9, hok.10, hok.11, hok.12, hok.13, hok.14, hok.15, hok.16, hok.17, hok.18, hok.19, hok.20, hok.21, hok.22⟩, hc, hx⟩, fun c h9 => ?_⟩
      exact fin_k tt_ok (rs := rs_r31_Exec) rfl rfl (hK c h9) [0, 4] rfl rfl rfl rfl rfl rfl
    · obtain rfl : o = 48 := by simpa using g5
      replace hx : finR (Mach.diss ⟨k, 0, m⟩) = (k', e', m') := hx
      simp only [ex_diss, i5, cond_false] at hx
      cases hx
      refine WpE.into (aliasSlot 7 0 0 m.l.length cap rfl rfl) ?_
      refine fin_k tt_ok (rs := rs_r31_Exec) rfl rfl (hK cap hc) [0, 4] rfl ?_ rfl rfl rfl rfl
      rw [seg_all]; rfl
    · have o47 : o = 47 := by
        simp at h2
        unfold mineB isOp at h2
        simp only [show (o == 67) = false from g0, show (o == 73) = false from g1, show (o == 72) = false from g2, show (o == 68) = false from g3, show (o == 48) = false from g5, show (o == 69) = false from g4, cond_false] at h2
        cases h15 : fn == 15
        · simp [h15] at h2
        · cases h47 : o == 47
          · simp [h15, h47] at h2
          · simpa using h47
      subst o47
      replace hx : finR (Mach.disc ⟨k, 0, m⟩) = (k', e', m') := hx
      simp only [ex_disc, i6, cond_true] at hx
      refine ⟨(m, k', e', m'), ⟨rfl, rfl, ⟨⟨hok.1, h0i, h0i, hok.4, hok.5, hok.6, hok.7, hok.8, hok.9, hok.10, hok.11, hok.12, hok.13, hok.14, hok.15, hok.16, hok.17, hok.18, hok.19, hok.20, hok.21, hok.22⟩, hok.c⟩, hc, hx⟩, fun c h9 => ?_⟩
      exact fin_k tt_ok (rs := rs_r31_Exec) rfl rfl (hK c h9) [0, 4] rfl rfl rfl rfl rfl rfl
    · have o47 : o = 47 := by
        simp at h2
        unfold mineB isOp at h2
        simp only [show (o == 67) = false from g0, show (o == 73) = false from g1, show (o == 72) = false from g2, show (o == 68) = false from g3, show (o == 48) = false from g5, show (o == 69) = false from g4, cond_false] at h2
        cases h15 : fn == 15
        · simp [h15] at h2
        · cases h47 : o == 47
          · simp [h15, h47] at h2
          · simpa using h47
      subst o47
      replace hx : finR (Mach.disc ⟨k, 0, m⟩) = (k', e', m') := hx
      simp only [ex_disc, i6, cond_false] at hx
      cases hx
      refine WpE.into (aliasSlot 7 0 0 m.l.length cap rfl rfl) ?_
      refine fin_k tt_ok (rs := rs_r31_Exec) rfl rfl (hK cap hc) [0, 4] rfl ?_ rfl rfl rfl rfl
      rw [seg_all]; rfl
end Go.Proofs

namespace Go.Proofs
open Go Go.Sx
set_option maxRecDepth 10000
theorem Bytes_v (l : List Int) (hn : l.length ≤ 65536) (h0 : 1 ≤ l.length) : Con Try.prog f_mem_Mem_Bytes [.s (.loc 0 0)] [mBox l.length, mOwn l]
    (.ret (.t (.s (.sl 2 0 l.length l.length))) [mBox l.length, mOwn l, .view (bytesI l)]) := by
  intro K hK
  refine enter fn_mem_Mem_Bytes rfl nt_mem_Mem_Bytes rfl rfl (fun φ w0 β0 F => ?_)
  refine c_run tt_ok ctN_ok k_mem_Mem_Bytes [] 60 (by kernel_rfl) ?_
  refine ⟨fun h => ?_, fun h => ?_⟩
  · simp at h; subst h; simp at h0
  · refine ⟨l.length, ⟨rfl, rfl, by simp only [maxLen]; omega, by omega⟩, ?_⟩
    refine ⟨l.length, ⟨by simp, by simp, by simp, ?_⟩, ?_⟩
    · rw [seg_bytesI]; exact bytesI_one _
    · show WpE _ _ _ _ _
      refine e_freeze 2 rfl rfl ?_
      refine fin_k tt_ok (rs := rs_mem_Mem_Bytes) rfl rfl hK [0, 1, 2] rfl ?_ rfl rfl rfl rfl
      show pickL [mBox l.length, mOwn l, Ch.view (setV (List.replicate l.length (Value.int .u8 0)) 0 (seg (bytesI l) 0 l.length))] [0, 1, 2] = _
      rw [copy_all l _ (by simp)]; rfl
noncomputable abbrev eBytesV : Ent := .st (conS (P := Try.prog) (f := f_mem_Mem_Bytes) fun cargs σ0 => match cargs, σ0 with
  | [.s (.loc 0 0)], [.blk 65 [.sl 1 0 n n'], .own 5 1 c xs] => some ⟨.ex Ram fun m => .ask (xs = bytesI m.l ∧ n = m.l.length ∧ n' = m.l.length ∧ c = m.l.length)
      (.ret (.t (.s (.sl 2 0 m.l.length m.l.length))) [mBox m.l.length, mOwn m.l, .view (bytesI m.l)]), fun K h => by
      obtain ⟨m, ⟨e1, e2, e3, e4⟩, h⟩ := h
      subst e1; subst e2; subst e3; subst e4
      have := m.lo
      exact Bytes_v m.l m.hi (by omega) K h⟩
  | _, _ => none)
theorem Size_n : Con Try.prog f_mem_Mem_Size [.s (.raw (.pointer none))] [] (.ret (.t (.s (.int .i64 0))) []) := by
  intro K hK
  refine enter fn_mem_Mem_Size rfl nt_mem_Mem_Size rfl rfl (fun φ w0 β0 F => ?_)
  refine c_run tt_ok (ct := []) trivial k_mem_Mem_Size [] 60 (by kernel_rfl) ?_
  refine ⟨fun _ => ?_, fun h => absurd h (by decide)⟩
  exact fin_k tt_ok (rs := rs_mem_Mem_Size) rfl rfl hK [] rfl rfl rfl rfl rfl rfl
noncomputable abbrev eSizeN : Ent := .st (conS (P := Try.prog) (f := f_mem_Mem_Size) fun cargs σ0 => match cargs, σ0 with
  | [.s (.raw (.pointer none))], [] => some ⟨.ret (.t (.s (.int .i64 0))) [], fun K h => Size_n K h⟩
  | _, _ => none)
noncomputable abbrev ctXn : CT := [(f_mem_Mem_Size, eSizeN)]
theorem ctXn_ok : CTok Try.prog ctXn := ⟨con_ok cal_mem_Mem_Size _, trivial⟩
theorem Exec_n (k : Core) (fn o : Int) : Con Try.prog f_alt_Exec [.agg k.sv, .s (.raw (.pointer none)), .agg [.int .u8 fn, .int .i32 o]] [] (.ret (.tup [.agg Core.zero.sv, .s (.int .i64 1)]) []) := by
  intro K hK
  refine enter fn_alt_Exec rfl nt_alt_Exec rfl rfl (fun φ w0 β0 F => ?_)
  refine c_run tt_ok ctXn_ok k_alt_Exec [] 60 (by kernel_rfl) ?_
  refine ⟨fun _ => ?_, fun h => absurd h (by decide)⟩
  exact fin_k tt_ok (rs := rs_alt_Exec) rfl rfl hK [] rfl rfl rfl rfl rfl rfl
noncomputable abbrev eExec2 : Ent := .st (conS (P := Try.prog) (f := f_alt_Exec) fun cargs σ0 => match cargs, σ0 with
  | [.agg cs, .s (.loc 0 0), .agg [.int .u8 fn, .int .i32 o]], [.blk 65 [.sl 1 0 n n'], .own 5 1 c xs] => withCore cs fun k hk => some ⟨.ex (Ram × Core × Int × Ram) fun p => .ask (n = p.1.l.length ∧ n' = p.1.l.length ∧ c = p.1.l.length ∧ xs = bytesI p.1.l ∧ k.ok ∧ execR k p.1 fn o = p.2)
      (.ret (.tup [.agg p.2.1.sv, .s (.int .i64 p.2.2.1)]) [mBox p.2.2.2.l.length, mOwn p.2.2.2.l]), fun K h => by
      obtain ⟨⟨m, k', e', m'⟩, ⟨e1, e2, e3, e4, h1, h2⟩, h⟩ := h
      dsimp only at e1 e2 e3 e4 h2 h
      subst e1; subst e2; subst e3; subst e4; subst hk
      refine Exec_c k m fn o h1 K ?_
      rw [h2]; exact h⟩
  | [.agg cs, .s (.raw (.pointer none)), .agg [.int .u8 fn, .int .i32 o]], [] => withCore cs fun k hk => some ⟨.ret (.tup [.agg Core.zero.sv, .s (.int .i64 1)]) [], fun K h => by
      subst hk
      exact Exec_n k fn o K h⟩
  | _, _ => none)
noncomputable abbrev eRExec : Ent := .st (conS (P := Try.prog) (f := f_r31_Exec) fun cargs σ0 => match cargs, σ0 with
  | [.agg cs, .s (.sl 0 0 n cap), .agg [.int .u8 fn, .int .i32 o]], [.view xs] => withCore cs fun k hk => some ⟨.ex (Ram × Core × Int × Ram) fun p => .ask (n = p.1.l.length ∧ xs = bytesI p.1.l ∧ k.ok ∧ p.1.l.length ≤ cap ∧ execR k p.1 fn o = p.2)
      (RES p.1 p.2.2.2 p.2.1 p.2.2.1), fun K h => by
      obtain ⟨⟨m, k', e', m'⟩, ⟨e1, e2, h1, h2, h3⟩, h⟩ := h
      dsimp only at e1 e2 h1 h2 h3 h
      subst e1; subst e2; subst hk
      exact RExec_c k m cap fn o k' e' m' h1 h2 h3 K h⟩
  | _, _ => none)
noncomputable abbrev ctAE : CT := [(f_l31_memory, eMemory), (f_l31_operations, in_l31_operations []), (f_mem_From, eFromT), (f_mem_Mem_SetWord, eSetWordT), (f_alt_Exec, eExec2), (f_r31_Exec, eRExec), (f_mem_Mem_Bytes, eBytesV), (f_l31_works, .pure spWorks)]
theorem ctAE_ok : CTok Try.prog ctAE := ⟨con_ok cal_l31_memory _, in_l31_operations_ok (ct := []) trivial, con_ok cal_mem_From _, con_ok cal_mem_Mem_SetWord _, con_ok cal_alt_Exec _, con_ok cal_r31_Exec _, con_ok cal_mem_Mem_Bytes _, ceWorks, trivial⟩
set_option maxHeartbeats 8000000 in
theorem AltExecs_c (k : Core) (l : List Int) (cap : Nat) (fn arg o st : Int) (hok : k.ok) (hl : ∀ b ∈ l, 0 ≤ b ∧ b < 256) (hc : l.length ≤ cap) (hm : cap ≤ maxLen) (ho : 0 ≤ o ∧ o < 256) :
    Con Try.prog f_l31_AltExecs [.agg k.sv, .s (.sl 0 0 l.length cap), .agg [.int .u8 fn, .int .i32 arg], .s (.int .u8 o), .s (.int .u8 st)] [.view (bytesI l)] (.ret (.t (.s (.bool true))) [.view (bytesI l)]) := by
  intro K hK
  refine enter fn_l31_AltExecs rfl nt_l31_AltExecs rfl rfl (fun φ w0 β0 F => ?_)
  refine c_run tt_ok ctAE_ok k_l31_AltExecs [] 60 (by kernel_rfl) ?_
  refine ⟨l, ⟨rfl, rfl, hc, hm, hl⟩, fun c1 hc1 => ?_⟩
  have hoj : (IntKind.i64.wrap o).tmod ((8 : Nat) : Int) = ((o % 8).toNat : Int) := by
    rw [wrap64 (by omega) (by omega), Int.tmod_eq_emod_of_nonneg ho.1]; omega
  have hlt : (o % 8).toNat < 8 := by omega
  generalize hj : (o % 8).toNat = j at hoj hlt
  obtain ⟨ov, hov⟩ : ∃ ov : Int, (List.map SV.cv [SV.int IntKind.i32 67, SV.int IntKind.i32 73, SV.int IntKind.i32 72, SV.int IntKind.i32 68, SV.int IntKind.i32 48, SV.int IntKind.i32 47, SV.int IntKind.i32 69, SV.int IntKind.i32 81])[j]? = some (SV.int .i32 ov).cv := by
    match j, hlt with
    | 0, _ => exact ⟨_, rfl⟩
    | 1, _ => exact ⟨_, rfl⟩
    | 2, _ => exact ⟨_, rfl⟩
    | 3, _ => exact ⟨_, rfl⟩
    | 4, _ => exact ⟨_, rfl⟩
    | 5, _ => exact ⟨_, rfl⟩
    | 6, _ => exact ⟨_, rfl⟩
    | 7, _ => exact ⟨_, rfl⟩
  have hov2 : (List.map SV.cv [SV.int IntKind.i32 67, SV.int IntKind.i32 73, SV.int IntKind.i32 72, SV.int IntKind.i32 68, SV.int IntKind.i32 48, SV.int IntKind.i32 47, SV.int IntKind.i32 69, SV.int IntKind.i32 81])[0 + j * (0 + 1)]? = some (SV.int .i32 ov).cv := by
    rw [show 0 + j * (0 + 1) = j by omega]; exact hov
  have hpr := and1_i64 k.pri
  have hok2 : Core.ok { k with pri := bits .and .i64 k.pri 1, busy := true } := ⟨hok.1, hok.2, hok.3, hok.4, hok.5, by constructor <;> (show _ ≤ _) <;> simp only [hpr] <;> omega, hok.7, hok.8, hok.9, hok.10, hok.11, hok.12, hok.13, hok.14, hok.15, hok.16, hok.17, hok.18, hok.19, hok.20, hok.21, hok.22⟩
  refine ⟨(by decide : ((8 : Nat) : Int) ≠ 0), j, ⟨hoj, hlt, by simp; omega⟩, .int .i32 ov, rfl, hov2, ?_⟩
  show WpC _ _ _ _ _
  refine c_loop (α := Nat) (fun i => i ≤ 2) (fun i => 2 - i)
    (fun i => [(1, .t (.s (.sl 3 0 1024 c1)), none), (4, .t (.s (.int .u8 st)), none), (5, .t (.s (.loc 1 0)), none), (7, .t (.s (.loc 2 0)), none), (12, .t (.s (.loc 4 0)), none), (45, .t (.agg [.int .u8 fn, .int .i32 arg, .int .u8 15, .int .i32 ov]), none), (46, .t (.s (.int .i64 (i : Int))), none)])
    (fun _ => [.view (bytesI l), .blk 32 k.sv, .blk 23 [.int .u8 fn, .int .i32 arg], .own 5 1 c1 (bytesI (memR l hl).l), .blk 32 (Core.sv ({ k with pri := bits .and .i64 k.pri 1, busy := true } : Core))]) 0 (by decide) ?_ ?_
  · exact into [0, 1, 2, 3, 5] ⟨⟨_, rfl, rfl⟩, ⟨_, rfl, rfl⟩, ⟨_, rfl, rfl⟩, ⟨_, rfl, rfl⟩, ⟨_, rfl, rfl⟩, ⟨_, rfl, rfl⟩, ⟨_, rfl, rfl⟩, trivial⟩ ⟨_, rfl, rfl⟩ rfl rfl rfl rfl
  · intro i hi
    rcases (show i = 0 ∨ i = 1 ∨ i = 2 by omega) with rfl | rfl | rfl
    · skip
      dsimp only
      refine c_run' tt_ok ctAE_ok k_l31_AltExecs [] 60 (by kernel_rfl) (by kernel_rfl) ?_
      refine ⟨fun _ => ?_, fun h => absurd h (by decide)⟩
      refine ⟨fun _ => ?_, fun h => absurd h (by decide)⟩
      refine ⟨memR l hl, ⟨rfl, (memR_length l hl).symm, rfl⟩, fun h => absurd h (by decide), fun _ => ?_⟩
      refine ⟨fun hs => ?_, fun hs => ?_⟩
      · refine ⟨memR l hl, ⟨rfl, rfl, rfl, rfl, I32_wrap _⟩, _, ⟨rfl, rfl, rfl, rfl, hok.wptr⟩, ?_⟩
        generalize ((memR l hl).set _ _).set k.wptr (-1) = m
        refine ⟨m, ⟨rfl, rfl, rfl, rfl⟩, ?_⟩
        rcases hx : execR k m fn arg with ⟨k2, e2, m2⟩
        refine ⟨(m, k2, e2, m2), ⟨rfl, rfl, rfl, rfl, hok, hx⟩, ?_⟩
        refine ⟨(m, k2, e2, m2), ⟨rfl, rfl, hok, Nat.le_refl _, hx⟩, fun c2 h2 => ?_⟩
        refine c_ways tt_ok ctAE_ok k_l31_AltExecs rfl rfl ?_
        repeat' (first | exact trivial | (refine ⟨m2.l, fun _ => ⟨seg_all m2, rfl⟩, ?_⟩) | (refine ⟨m2, ⟨rfl, rfl, rfl, rfl⟩, ?_⟩) | (refine And.intro ?_ ?_) | (intro h; simp at h; done) | (refine fun _ => ?_))
        all_goals
          refine e_run tt_ok ctAE_ok k_l31_AltExecs [] 60 (by kernel_rfl) ?_
          refine ⟨fun h => ?_, fun _ => ?_⟩
          · exfalso; simp at h
          · refine e_again 1 (by decide) (by decide) (into [0, 1, 2, 3, 4] ⟨⟨_, rfl, rfl⟩, ⟨_, rfl, rfl⟩, ⟨_, rfl, rfl⟩, ⟨_, rfl, rfl⟩, ⟨_, rfl, rfl⟩, ⟨_, rfl, rfl⟩, ⟨_, rfl, rfl⟩, trivial⟩ ⟨_, rfl, rfl⟩ rfl rfl rfl rfl)
      · have hm0 : ∃ m, m = memR l hl := ⟨_, rfl⟩
        obtain ⟨m, hmm⟩ := hm0
        rw [← hmm]
        refine ⟨m, ⟨rfl, rfl, rfl, rfl⟩, ?_⟩
        rcases hx : execR k m fn arg with ⟨k2, e2, m2⟩
        refine ⟨(m, k2, e2, m2), ⟨rfl, rfl, rfl, rfl, hok, hx⟩, ?_⟩
        refine ⟨(m, k2, e2, m2), ⟨rfl, rfl, hok, Nat.le_refl _, hx⟩, fun c2 h2 => ?_⟩
        refine c_ways tt_ok ctAE_ok k_l31_AltExecs rfl rfl ?_
        repeat' (first | exact trivial | (refine ⟨m2.l, fun _ => ⟨seg_all m2, rfl⟩, ?_⟩) | (refine ⟨m2, ⟨rfl, rfl, rfl, rfl⟩, ?_⟩) | (refine And.intro ?_ ?_) | (intro h; simp at h; done) | (refine fun _ => ?_))
        all_goals
          refine e_run tt_ok ctAE_ok k_l31_AltExecs [] 60 (by kernel_rfl) ?_
          refine ⟨fun h => ?_, fun _ => ?_⟩
          · exfalso; simp at h
          · refine e_again 1 (by decide) (by decide) (into [0, 1, 2, 3, 4] ⟨⟨_, rfl, rfl⟩, ⟨_, rfl, rfl⟩, ⟨_, rfl, rfl⟩, ⟨_, rfl, rfl⟩, ⟨_, rfl, rfl⟩, ⟨_, rfl, rfl⟩, ⟨_, rfl, rfl⟩, trivial⟩ ⟨_, rfl, rfl⟩ rfl rfl rfl rfl)
    · skip
      dsimp only
      refine c_run' tt_ok ctAE_ok k_l31_AltExecs [] 60 (by kernel_rfl) (by kernel_rfl) ?_
      refine ⟨fun _ => ?_, fun h => absurd h (by decide)⟩
      refine ⟨fun h => absurd h (by decide), fun _ => ?_⟩
      refine ⟨memR l hl, ⟨rfl, (memR_length l hl).symm, rfl⟩, fun h => absurd h (by decide), fun _ => ?_⟩
      refine ⟨fun hs => ?_, fun hs => ?_⟩
      · refine ⟨memR l hl, ⟨rfl, rfl, rfl, rfl, I32_wrap _⟩, _, ⟨rfl, rfl, rfl, rfl, hok2.wptr⟩, ?_⟩
        generalize ((memR l hl).set _ _).set k.wptr (-1) = m
        refine ⟨m, ⟨rfl, rfl, rfl, rfl⟩, ?_⟩
        rcases hx : execR { k with pri := bits .and .i64 k.pri 1, busy := true } m 15 ov with ⟨k2, e2, m2⟩
        refine ⟨(m, k2, e2, m2), ⟨rfl, rfl, rfl, rfl, hok2, hx⟩, ?_⟩
        refine ⟨(m, k2, e2, m2), ⟨rfl, rfl, hok2, Nat.le_refl _, hx⟩, fun c2 h2 => ?_⟩
        refine c_ways tt_ok ctAE_ok k_l31_AltExecs rfl rfl ?_
        repeat' (first | exact trivial | (refine ⟨m2.l, fun _ => ⟨seg_all m2, rfl⟩, ?_⟩) | (refine ⟨m2, ⟨rfl, rfl, rfl, rfl⟩, ?_⟩) | (refine And.intro ?_ ?_) | (intro h; simp at h; done) | (refine fun _ => ?_))
        all_goals
          refine e_run tt_ok ctAE_ok k_l31_AltExecs [] 60 (by kernel_rfl) ?_
          refine ⟨fun h => ?_, fun _ => ?_⟩
          · exfalso; simp at h
          · refine e_again 2 (by decide) (by decide) (into [0, 1, 2, 3, 4] ⟨⟨_, rfl, rfl⟩, ⟨_, rfl, rfl⟩, ⟨_, rfl, rfl⟩, ⟨_, rfl, rfl⟩, ⟨_, rfl, rfl⟩, ⟨_, rfl, rfl⟩, ⟨_, rfl, rfl⟩, trivial⟩ ⟨_, rfl, rfl⟩ rfl rfl rfl rfl)
      · have hm0 : ∃ m, m = memR l hl := ⟨_, rfl⟩
        obtain ⟨m, hmm⟩ := hm0
        rw [← hmm]
        refine ⟨m, ⟨rfl, rfl, rfl, rfl⟩, ?_⟩
        rcases hx : execR { k with pri := bits .and .i64 k.pri 1, busy := true } m 15 ov with ⟨k2, e2, m2⟩
        refine ⟨(m, k2, e2, m2), ⟨rfl, rfl, rfl, rfl, hok2, hx⟩, ?_⟩
        refine ⟨(m, k2, e2, m2), ⟨rfl, rfl, hok2, Nat.le_refl _, hx⟩, fun c2 h2 => ?_⟩
        refine c_ways tt_ok ctAE_ok k_l31_AltExecs rfl rfl ?_
        repeat' (first | exact trivial | (refine ⟨m2.l, fun _ => ⟨seg_all m2, rfl⟩, ?_⟩) | (refine ⟨m2, ⟨rfl, rfl, rfl, rfl⟩, ?_⟩) | (refine And.intro ?_ ?_) | (intro h; simp at h; done) | (refine fun _ => ?_))
        all_goals
          refine e_run tt_ok ctAE_ok k_l31_AltExecs [] 60 (by kernel_rfl) ?_
          refine ⟨fun h => ?_, fun _ => ?_⟩
          · exfalso; simp at h
          · refine e_again 2 (by decide) (by decide) (into [0, 1, 2, 3, 4] ⟨⟨_, rfl, rfl⟩, ⟨_, rfl, rfl⟩, ⟨_, rfl, rfl⟩, ⟨_, rfl, rfl⟩, ⟨_, rfl, rfl⟩, ⟨_, rfl, rfl⟩, ⟨_, rfl, rfl⟩, trivial⟩ ⟨_, rfl, rfl⟩ rfl rfl rfl rfl)
    · dsimp only
      refine c_run' tt_ok ctAE_ok k_l31_AltExecs [] 60 (by kernel_rfl) (by kernel_rfl) ?_
      refine ⟨fun h => absurd h (by decide), fun _ => ?_⟩
      refine ⟨fun _ => trivial, ?_⟩
      exact fin_k tt_ok (rs := rs_l31_AltExecs) rfl rfl hK [0] rfl rfl rfl rfl rfl rfl
end Go.Proofs
