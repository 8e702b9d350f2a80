/- The plain law of a communication over a memory of 1024 bytes. No program in sight. -/
import Derived.Test.YtbdcobclpfcdhaaWalkB

namespace Go.Proofs
open Go Go.Sx
set_option maxRecDepth 10000
/-- An address of a word of a memory of 1024 bytes. -/
def inA (a : Int) : Prop := a % 4 = 0 ∧ -2147483648 ≤ a ∧ a < -2147482624
instance (a : Int) : Decidable (inA a) := by unfold inA; infer_instance
theorem inA_bad {m : Ram} {a : Int} (hl : m.l.length = 1024) (ha : inA a) : wBad m a = false := by
  unfold inA at ha
  unfold wBad spanBad ofAt wAt
  rw [hl, show decide (a - a % 4 + 2147483648 ≥ ((1024 : Nat) : Int)) = false by simp; omega]
  simp; omega
theorem inA_i32 {a : Int} (ha : inA a) : I32 a := by unfold inA at ha; unfold I32; omega
theorem err0 {m : Ram} {a : Int} (hl : m.l.length = 1024) (ha : inA a) : m.err a = 0 := by simp [Ram.err, inA_bad hl ha]
theorem word_set {m : Ram} {a b v : Int} (hl : m.l.length = 1024) (ha : inA a) (hb : inA b) (hv : I32 v) : (m.set a v).word b = if a = b then v else m.word b := by
  have h1 := inA_bad hl ha
  have h2 := inA_bad hl hb
  have hA := wBad_nat h1
  have hB := wBad_nat h2
  unfold Ram.word
  rw [set_wBad, h2, set_ok h1]
  simp only [cond_false]
  split
  · rename_i e; subst e; exact getW_setW hA hv
  · rename_i hne
    unfold inA at ha hb
    unfold ofAt wAt at *
    unfold getW setW
    rw [stW_get hA 4 (by decide), stW_get hA 4 (by decide), stW_get hA 4 (by decide), stW_get hA 4 (by decide)]
    rw [if_neg (by omega), if_neg (by omega), if_neg (by omega), if_neg (by omega)]
theorem word_at {m : Ram} {a v : Int} (hl : m.l.length = 1024) (ha : inA a) (hv : I32 v) : (m.set a v).word a = v := word_set_at (inA_bad hl ha) hv
theorem word_off {m : Ram} {a b v : Int} (hl : m.l.length = 1024) (ha : inA a) (hb : inA b) (hv : I32 v) (h : a ≠ b) : (m.set a v).word b = m.word b := by rw [word_set hl ha hb hv, if_neg h]
theorem len_set {m : Ram} {a v : Int} (hl : m.l.length = 1024) : (m.set a v).l.length = 1024 := by rw [set_len]; exact hl
theorem setL_at {l v : List Int} {off : Nat} (h : off + v.length ≤ l.length) (j : Nat) : (setL l off v).getD j 0 = if off ≤ j ∧ j < off + v.length then v.getD (j - off) 0 else l.getD j 0 := by
  unfold setL
  simp only [List.getD_eq_getElem?_getD]
  have ht : (l.take off).length = off := by simp; omega
  split
  · rename_i hj
    rw [List.getElem?_append_left (by simp; omega), List.getElem?_append_right (by omega), ht]
  · rename_i hj
    by_cases h1 : j < off
    · rw [List.getElem?_append_left (by simp; omega), List.getElem?_append_left (by omega), List.getElem?_take, if_pos h1]
    · rw [List.getElem?_append_right (by simp; omega), List.getElem?_drop]
      congr 2
      simp; omega
theorem mvBad_1024 {m : Ram} {to fr n : Int} (hl : m.l.length = 1024) (h0 : 0 ≤ n) (h1 : n ≤ 1024) (ht : -2147483648 ≤ to ∧ to + n ≤ -2147482624 ∧ to < -2147482624) (hf : -2147483648 ≤ fr ∧ fr + n ≤ -2147482624 ∧ fr < -2147482624) : mvBad m to fr n = false := by
  unfold mvBad spanBad Uw ofAt
  rw [hl]
  rw [show decide (fr + 2147483648 ≥ ((1024 : Nat) : Int)) = false by simp; omega, show decide (to + 2147483648 ≥ ((1024 : Nat) : Int)) = false by simp; omega]
  simp only [cond_false]
  rw [show decide (n % 4294967296 > ((1024 : Nat) : Int) - (fr + 2147483648)) = false by simp; omega]
  simp; omega
/-- A byte after a move. -/
theorem move_get {m : Ram} {to fr n : Int} (hl : m.l.length = 1024) (h0 : 0 ≤ n) (h1 : n ≤ 1024) (ht : -2147483648 ≤ to ∧ to + n ≤ -2147482624 ∧ to < -2147482624) (hf : -2147483648 ≤ fr ∧ fr + n ≤ -2147482624 ∧ fr < -2147482624) (j : Nat) :
    (m.move to fr n).l.getD j 0 = if ofAt to ≤ j ∧ (j : Int) < ofAt to + n then m.l.getD (ofAt fr + (j - ofAt to)).toNat 0 else m.l.getD j 0 := by
  have hb := mvBad_1024 hl h0 h1 ht hf
  have hI : I32 to ∧ I32 fr := by unfold I32; omega
  rw [move_ok hI.1 hI.2 hb]
  have hs : spanBad m.l.length fr (Uw n) = false := by
    unfold mvBad at hb
    cases h : spanBad m.l.length fr (Uw n) <;> simp [h] at hb ⊢
  have hp := part_len hI.2 hs
  have hU : Uw n = n := by unfold Uw; omega
  rw [hU] at hp
  rw [setL_at (by rw [hp, hl]; unfold ofAt; omega), hp]
  unfold ofAt
  by_cases hj : (to + 2147483648 ≤ j ∧ (j : Int) < to + 2147483648 + n)
  · rw [if_pos (by omega), if_pos hj]
    unfold Ram.part
    rw [hU]
    simp only [List.getD_eq_getElem?_getD]
    rw [List.getElem?_take, if_pos (by omega), List.getElem?_drop]
    congr 2
    unfold ofAt; omega
  · rw [if_neg (by omega), if_neg hj]
theorem word_get {m : Ram} {a : Int} (hl : m.l.length = 1024) (ha : inA a) : m.word a = getW m.l (a + 2147483648).toNat := by
  rw [word_eq (inA_bad hl ha)]
  unfold inA at ha
  rw [show wAt a = a by unfold wAt; omega]; rfl
theorem word_move_off {m : Ram} {to fr n b : Int} (hl : m.l.length = 1024) (h0 : 0 ≤ n) (h1 : n ≤ 1024) (ht : -2147483648 ≤ to ∧ to + n ≤ -2147482624 ∧ to < -2147482624) (hf : -2147483648 ≤ fr ∧ fr + n ≤ -2147482624 ∧ fr < -2147482624) (hb : inA b) (h : b + 4 ≤ to ∨ to + n ≤ b) : (m.move to fr n).word b = m.word b := by
  rw [word_get (by rw [move_len]; exact hl) hb, word_get hl hb]
  unfold inA at hb
  unfold getW
  rw [move_get hl h0 h1 ht hf, move_get hl h0 h1 ht hf, move_get hl h0 h1 ht hf, move_get hl h0 h1 ht hf]
  unfold ofAt
  rw [if_neg (by omega), if_neg (by omega), if_neg (by omega), if_neg (by omega)]
theorem word_move4 {m : Ram} {to fr : Int} (hl : m.l.length = 1024) (ht : inA to) (hf : inA fr) : (m.move to fr 4).word to = m.word fr := by
  rw [word_get (by rw [move_len]; exact hl) ht, word_get hl hf]
  unfold inA at ht hf
  unfold getW
  rw [move_get hl (by omega) (by omega) (by omega) (by omega), move_get hl (by omega) (by omega) (by omega) (by omega), move_get hl (by omega) (by omega) (by omega) (by omega), move_get hl (by omega) (by omega) (by omega) (by omega)]
  unfold ofAt
  rw [if_pos (by omega), if_pos (by omega), if_pos (by omega), if_pos (by omega)]
  rw [show (fr + 2147483648 + (((to + 2147483648).toNat : Nat) - (to + 2147483648))).toNat = (fr + 2147483648).toNat by omega]
  rw [show (fr + 2147483648 + ((((to + 2147483648).toNat + 1 : Nat) : Int) - (to + 2147483648))).toNat = (fr + 2147483648).toNat + 1 by omega]
  rw [show (fr + 2147483648 + ((((to + 2147483648).toNat + 2 : Nat) : Int) - (to + 2147483648))).toNat = (fr + 2147483648).toNat + 2 by omega]
  rw [show (fr + 2147483648 + ((((to + 2147483648).toNat + 3 : Nat) : Int) - (to + 2147483648))).toNat = (fr + 2147483648).toNat + 3 by omega]
theorem len_move {m : Ram} {to fr n : Int} (hl : m.l.length = 1024) : (m.move to fr n).l.length = 1024 := by rw [move_len]; exact hl
theorem validB_1024 {m : Ram} (hl : m.l.length = 1024) (w : Int) : validB m w = bif bif w % 4 == 0 then decide (w + 2147483648 ≥ 20) else false then decide (w + 2147483648 + 4 ≤ 1024) else false := by unfold validB ofAt; rw [hl]; rfl
/-- The first of two processes waits. -/
theorem out_first {k : Core} {m : Ram} {n ch at_ : Int} (hl : m.l.length = 1024) (hp : priBad k = false) (hi : idleB k ch = false) (hc : inA ch) (hw : m.word ch = NP) (hv : validB m k.wptr = true) (hb : k.busy = true) :
    outR k m n ch at_ = (k.nobody, 0, (wtM k m ch at_).set (IntKind.i32.wrap (k.wptr + -4)) k.iptr) := by
  unfold outR begR outR2
  rw [hp, hi]
  simp only [cond_false]
  rw [err0 hl hc, hw]
  exact wtsR_eq hb hv
theorem in_first {k : Core} {m : Ram} {n ch at_ : Int} (hl : m.l.length = 1024) (hp : priBad k = false) (hi : idleB k ch = false) (hc : inA ch) (hw : m.word ch = NP) (hv : validB m k.wptr = true) (hb : k.busy = true) :
    inR k m n ch at_ = (k.nobody, 0, (wtM k m ch at_).set (IntKind.i32.wrap (k.wptr + -4)) k.iptr) := by
  unfold inR begR inR2
  rw [hp, hi]
  simp only [cond_false]
  rw [err0 hl hc, hw]
  exact wtsR_eq hb hv
/-- What a copy does where the other's queue is empty. -/
theorem cop_ok {k : Core} {m m' : Ram} {to fr n ch d : Int} (hm : (bif decide (n > 0) then m.move to fr n else m) = m') (hb : (bif decide (n > 0) then mvBad m to fr n else false) = false) (hv : validB m (wsp d) = true) (hf : k.fr (odd d) = NP) (hn : Uw n ≤ m.l.length) :
    copR k m to fr n ch d = (((k.setF (odd d) (wsp d)).setB (odd d) (wsp d)).abc 0 0 0, 0, m'.set ch NP) := by
  have hml : m'.l.length = m.l.length := by rw [← hm]; cases decide (n > 0) <;> simp [move_len]
  unfold copR
  rw [hb, hm, show queuedB k m d = true by unfold queuedB; rw [hv, hf]; rfl, show decide (Uw n > m.l.length) = false by simp; omega]
  simp only [Bool.not_true, cond_false]
  unfold finiR appR
  rw [validB_len (m := m'.set ch NP) (m' := m) (by rw [set_len, hml]), hv, hf]
  simp
theorem in_second {k : Core} {m m' : Ram} {n ch at_ d : Int} (hl : m.l.length = 1024) (hp : priBad k = false) (hi : idleB k ch = false) (hc : inA ch) (hw : m.word ch = d) (hd : (d == NP) = false) (hv : validB m (wsp d) = true) (hf : k.fr (odd d) = NP)
    (hn : Uw n ≤ 1024) (hm : (bif decide (n > 0) then m.move at_ (m.word (stA d)) n else m) = m') (hb : (bif decide (n > 0) then mvBad m at_ (m.word (stA d)) n else false) = false) :
    inR k m n ch at_ = (((k.setF (odd d) (wsp d)).setB (odd d) (wsp d)).abc 0 0 0, 0, m'.set ch NP) := by
  unfold inR begR inR2
  rw [hp, hi]
  simp only [cond_false]
  rw [err0 hl hc, hw, hd, hv]
  exact cop_ok hm hb hv hf (by rw [hl]; exact hn)
theorem out_second {k : Core} {m m' : Ram} {n ch at_ d : Int} (hl : m.l.length = 1024) (hp : priBad k = false) (hi : idleB k ch = false) (hc : inA ch) (hw : m.word ch = d) (hd : (d == NP) = false) (hv : validB m (wsp d) = true) (hf : k.fr (odd d) = NP)
    (ha : naltB (m.word (stA d)) = true)
    (hn : Uw n ≤ 1024) (hm : (bif decide (n > 0) then m.move (m.word (stA d)) at_ n else m) = m') (hb : (bif decide (n > 0) then mvBad m (m.word (stA d)) at_ n else false) = false) :
    outR k m n ch at_ = (((k.setF (odd d) (wsp d)).setB (odd d) (wsp d)).abc 0 0 0, 0, m'.set ch NP) := by
  unfold outR begR outR2
  rw [hp, hi]
  simp only [cond_false]
  rw [err0 hl hc, hw, hd, hv, ha]
  exact cop_ok hm hb hv hf (by rw [hl]; exact hn)
theorem m0_len : m0.l.length = 1024 := by unfold m0; rw [set_len]; exact List.length_replicate
theorem m0_line : m0.word line = NP := by decide +kernel
end Go.Proofs

namespace Go.Proofs
open Go Go.Sx
set_option maxRecDepth 10000
/-- What a function of the reference returns: a core, a memory, an error. -/
abbrev RES (m m' : Ram) (k' : Core) (e' : Int) : Out := .all Nat (fun c => m'.l.length ≤ c) fun c => .ret (.tup [.agg k'.sv, .s (.sl 1 0 m'.l.length c), .s (.int .i64 e')]) [.view (bytesI m.l), .view (bytesI m'.l)]
noncomputable abbrev ctRSt : CT := [(f_r03_SetWord, eRSetWordT)]
theorem ctRSt_ok : CTok Try.prog ctRSt := ⟨con_ok cal_r03_SetWord _, trivial⟩
theorem seg_all (m : Ram) : seg (bytesI m.l) 0 m.l.length = bytesI m.l := by rw [seg_bytesI, List.drop_zero, List.take_length]
noncomputable abbrev ctRVa : CT := [(f_r03_Index, .pure spIndex), (f_r03_Lies, .pure spLies)]
theorem ctRVa_ok : CTok Try.prog ctRVa := ⟨ceIndex, ceLies, trivial⟩
theorem RValid_c (m : Ram) (cap : Nat) (w : Int) (hw : I32 w) : Con Try.prog f_r29_Valid [.s (.sl 0 0 m.l.length cap), .s (.int .i32 w)] [.view (bytesI m.l)] (.ret (.t (.s (.bool (validB m w)))) [.view (bytesI m.l)]) := by
  intro K hK
  have h0 := m.lo
  have h1 := m.hi
  refine enter fn_r29_Valid rfl nt_r29_Valid rfl rfl (fun φ w0 β0 F => ?_)
  refine c_run tt_ok ctRVa_ok k_r29_Valid [] 60 (by kernel_rfl) ?_
  refine ⟨fun _ => hw, fun _ => ⟨by omega, by omega, hw⟩, ?_⟩
  refine fin_k tt_ok (rs := rs_r29_Valid) rfl rfl hK [0] (t1b ?_) rfl rfl rfl rfl rfl
  have e : (w.tmod 4 == 0) = (w % 4 == 0) := by
    unfold I32 at hw
    have : w.tmod 4 = w % 4 ∨ (w < 0 ∧ w.tmod 4 = -((-w) % 4)) := by
      rcases Int.lt_or_le w 0 with h | h
      · exact .inr ⟨h, (tmod4 w).2 h⟩
      · exact .inl ((tmod4 w).1 h)
    rw [Bool.eq_iff_iff]
    simp only [beq_iff_eq]
    omega
  rw [e]
  unfold validB liesB
  cases hA : (bif w % 4 == 0 then decide (ofAt w ≥ 20) else false)
  · rfl
  · have : ofAt w ≥ 20 := by
      cases h4 : (w % 4 == 0) <;> simp [h4] at hA
      exact hA
    simp only [cond_true]
    rw [Bool.eq_iff_iff]
    simp
    omega
noncomputable abbrev eRValid : Ent := .st (conS (P := Try.prog) (f := f_r29_Valid) fun cargs σ0 => match cargs, σ0 with
  | [.s (.sl 0 0 n cap), .s (.int .i32 w)], [.view xs] => some ⟨.ex Ram fun m => .ask (n = m.l.length ∧ xs = bytesI m.l ∧ I32 w) (.ret (.t (.s (.bool (validB m w)))) [.view (bytesI m.l)]), fun K h => by
      obtain ⟨m, ⟨e1, e2, h1⟩, h⟩ := h
      subst e1; subst e2
      exact RValid_c m cap w h1 K h⟩
  | _, _ => none)
theorem RNobody_c (k : Core) : Con Try.prog f_r29_Nobody [.agg k.sv] [] (.ret (.t (.agg k.nobody.sv)) []) := by
  intro K hK
  refine enter fn_r29_Nobody rfl nt_r29_Nobody rfl rfl (fun φ w0 β0 F => ?_)
  refine c_run tt_ok (ct := []) trivial k_r29_Nobody [] 60 (by kernel_rfl) ?_
  exact fin_k tt_ok (rs := rs_r29_Nobody) rfl rfl hK [] rfl rfl rfl rfl rfl rfl
def spRNobody : List TV → Option (Prop × FV)
  | [.agg cs] => withCore cs fun k _ => some (True, .t (.agg k.nobody.sv))
  | _ => none
theorem ceRNobody : CEok Try.prog f_r29_Nobody spRNobody := ⟨cal_r29_Nobody, fun args p v h hp => by
  unfold spRNobody at h; split at h
  · obtain ⟨k, hk, h⟩ := withCore_some h
    cases h; subst hk; exact (RNobody_c _).pure
  · cases h⟩
theorem RSet_c (m : Ram) (cap : Nat) (w k v : Int) (hc : m.l.length ≤ cap) : Con Try.prog f_r29_Set [.s (.sl 0 0 m.l.length cap), .s (.int .i32 w), .s (.int .i32 k), .s (.int .i32 v)] [.view (bytesI m.l)]
    (.all Nat (fun c => m.l.length ≤ c) fun c => .ret (.t (.s (.sl 1 0 (m.set (IntKind.i32.wrap (w + IntKind.i32.wrap (4 * k))) v).l.length c))) [.view (bytesI m.l), .view (bytesI (m.set (IntKind.i32.wrap (w + IntKind.i32.wrap (4 * k))) v).l)]) := by
  intro K hK
  refine enter fn_r29_Set rfl nt_r29_Set rfl rfl (fun φ w0 β0 F => ?_)
  refine c_run tt_ok ctRSt_ok k_r29_Set [] 60 (by kernel_rfl) ?_
  refine ⟨m, ⟨rfl, rfl, I32_wrap _, hc⟩, fun c h1 => ?_⟩
  exact fin_k tt_ok (rs := rs_r29_Set) rfl rfl (hK c h1) [0, 1] rfl rfl rfl rfl rfl rfl
noncomputable abbrev eRSet : Ent := .st (conS (P := Try.prog) (f := f_r29_Set) fun cargs σ0 => match cargs, σ0 with
  | [.s (.sl 0 0 n cap), .s (.int .i32 w), .s (.int .i32 k), .s (.int .i32 v)], [.view xs] => some ⟨.ex Ram fun m => .ask (n = m.l.length ∧ xs = bytesI m.l ∧ m.l.length ≤ cap)
      (.all Nat (fun c => m.l.length ≤ c) fun c => .ret (.t (.s (.sl 1 0 (m.set (IntKind.i32.wrap (w + IntKind.i32.wrap (4 * k))) v).l.length c))) [.view (bytesI m.l), .view (bytesI (m.set (IntKind.i32.wrap (w + IntKind.i32.wrap (4 * k))) v).l)]), fun K h => by
      obtain ⟨m, ⟨e1, e2, h1⟩, h⟩ := h
      subst e1; subst e2
      exact RSet_c m cap w k v h1 K h⟩
  | _, _ => none)
def waR (k : Core) (m : Ram) : Core × Int × Ram := bif !k.busy then (.zero, 8, m) else bif !validB m k.wptr then (.zero, 4, m) else (k.nobody, 0, m.set (IntKind.i32.wrap (k.wptr + -4)) k.iptr)
noncomputable abbrev ctRWt : CT := [(f_r29_Valid, eRValid), (f_r29_Nobody, .pure spRNobody), (f_r29_Set, eRSet)]
theorem ctRWt_ok : CTok Try.prog ctRWt := ⟨con_ok cal_r29_Valid _, ceRNobody, con_ok cal_r29_Set _, trivial⟩
set_option maxHeartbeats 4000000 in
theorem RWait_c (k : Core) (m : Ram) (cap : Nat) (k' : Core) (e' : Int) (m' : Ram) (hw : I32 k.wptr) (hc : m.l.length ≤ cap) (hx : waR k m = (k', e', m')) :
    Con Try.prog f_r29_Wait [.agg k.sv, .s (.sl 0 0 m.l.length cap)] [.view (bytesI m.l)] (RES m m' k' e') := by
  intro K hK
  refine enter fn_r29_Wait rfl nt_r29_Wait rfl rfl (fun φ w0 β0 F => ?_)
  refine c_run tt_ok ctRWt_ok k_r29_Wait [] 60 (by kernel_rfl) ?_
  refine ⟨fun h => ?_, fun h => ⟨m, ⟨rfl, rfl, hw⟩, fun h2 => ?_, fun h2 => ?_⟩⟩
  · simp only [waR, h, cond_true] at hx
    cases hx
    refine WpE.into (aliasSlot 5 0 0 m.l.length cap rfl rfl) ?_
    refine fin_k tt_ok (rs := rs_r29_Wait) rfl rfl (hK cap hc) [0, 3] rfl ?_ rfl rfl rfl rfl
    rw [seg_all]; rfl
  · simp only [waR, h, h2, cond_true, cond_false] at hx
    cases hx
    refine WpE.into (aliasSlot 5 0 0 m.l.length cap rfl rfl) ?_
    refine fin_k tt_ok (rs := rs_r29_Wait) rfl rfl (hK cap hc) [0, 3] rfl ?_ rfl rfl rfl rfl
    rw [seg_all]; rfl
  · simp only [waR, h, h2, cond_false] at hx
    cases hx
    refine c_ways tt_ok ctRWt_ok k_r29_Wait rfl rfl ?_
    repeat' (first | exact trivial | (refine ⟨m, ⟨rfl, rfl, hc⟩, fun c h1 => ?_⟩) | (refine And.intro ?_ ?_))
    all_goals
      refine e_run tt_ok ctRWt_ok k_r29_Wait [] 60 (by kernel_rfl) ?_
      refine fin_k tt_ok (rs := rs_r29_Wait) rfl rfl (hK c (by rw [set_len]; assumption)) [0, 3] rfl rfl rfl rfl rfl rfl
noncomputable abbrev eRWait : Ent := .st (conS (P := Try.prog) (f := f_r29_Wait) fun cargs σ0 => match cargs, σ0 with
  | [.agg cs, .s (.sl 0 0 n cap)], [.view xs] => withCore cs fun k hk => some ⟨.ex (Ram × Core × Int × Ram) fun p => .ask (n = p.1.l.length ∧ xs = bytesI p.1.l ∧ I32 k.wptr ∧ p.1.l.length ≤ cap ∧ waR k p.1 = p.2) (RES p.1 p.2.2.2 p.2.1 p.2.2.1), fun K h => by
      obtain ⟨⟨m, k', e', m'⟩, ⟨e1, e2, h1, h2, h3⟩, h⟩ := h
      dsimp only at e1 e2 h1 h2 h3 h
      subst e1; subst e2; subst hk
      exact RWait_c k m cap k' e' m' h1 h2 h3 K h⟩
  | _, _ => none)
end Go.Proofs

namespace Go.Proofs
open Go Go.Sx
set_option maxRecDepth 10000
theorem RInternal_c (ch : Int) (h : I32 ch) : Con Try.prog f_r30_Internal [.s (.int .i32 ch)] [] (.ret (.t (.s (.bool (intB ch)))) []) := by
  intro K hK
  refine enter fn_r30_Internal rfl nt_r30_Internal rfl rfl (fun φ w0 β0 F => ?_)
  refine c_run tt_ok (ct := []) trivial k_r30_Internal [] 60 (by kernel_rfl) ?_
  refine fin_k tt_ok (rs := rs_r30_Internal) rfl rfl hK [] (t1b ?_) rfl rfl rfl rfl rfl
  unfold I32 at h
  rw [and3_i32]
  unfold intB wsp
  rw [wrap64 (n := ch) (by omega) (by omega), wrap64 (n := ch % 4) (by omega) (by omega), wrap64 (by omega) (by omega)]
def spRInternal : List TV → Option (Prop × FV)
  | [.s (.int .i32 ch)] => some (I32 ch, .t (.s (.bool (intB ch))))
  | _ => none
theorem ceRInternal : CEok Try.prog f_r30_Internal spRInternal := ⟨cal_r30_Internal, fun args p v h hp => by
  unfold spRInternal at h; split at h
  · cases h; exact (RInternal_c _ hp).pure
  · cases h⟩
noncomputable abbrev ctRBg : CT := [(f_r30_Internal, .pure spRInternal), (f_r03_Word, eRWordT)]
theorem ctRBg_ok : CTok Try.prog ctRBg := ⟨ceRInternal, con_ok cal_r03_Word _, trivial⟩
theorem err_word {m : Ram} {a : Int} (h : (m.err a != 0) = true) : m.word a = 0 ∧ m.err a = 4 := by
  unfold Ram.err at h ⊢
  unfold Ram.word
  cases hb : wBad m a
  · rw [hb] at h; simp at h
  · exact ⟨rfl, rfl⟩
theorem err_zero {m : Ram} {a : Int} (h : (m.err a != 0) = false) : m.err a = 0 := by simpa using h
theorem Rbegin_c (k : Core) (m : Ram) (cap : Nat) (ch : Int) (hd : I32 ch) : Con Try.prog f_r30_begin [.agg k.sv, .s (.sl 0 0 m.l.length cap), .s (.int .i32 ch)] [.view (bytesI m.l)]
    (.ret (.tup [.s (.int .i32 (begR k m ch).1), .s (.int .i64 (begR k m ch).2)]) [.view (bytesI m.l)]) := by
  intro K hK
  refine enter fn_r30_begin rfl nt_r30_begin rfl rfl (fun φ w0 β0 F => ?_)
  refine c_run tt_ok ctRBg_ok k_r30_begin [] 60 (by kernel_rfl) ?_
  refine ⟨fun h => ?_, fun h => ⟨fun _ => hd, fun h2 => ?_, fun h2 => ⟨m, ⟨rfl, rfl, hd⟩, fun h3 => ?_, fun h3 => ?_⟩⟩⟩
  · rw [show begR k m ch = (0, 2) by unfold begR; rw [show priBad k = true from h]; rfl] at hK
    exact fin_k tt_ok (rs := rs_r30_begin) rfl rfl hK [0] rfl rfl rfl rfl rfl rfl
  · rw [show begR k m ch = (0, 8) by unfold begR; rw [show priBad k = false from h, show idleB k ch = true from h2]; rfl] at hK
    exact fin_k tt_ok (rs := rs_r30_begin) rfl rfl hK [0] rfl rfl rfl rfl rfl rfl
  · obtain ⟨e1, e2⟩ := err_word h3
    rw [show begR k m ch = (0, 4) by unfold begR; rw [show priBad k = false from h, show idleB k ch = false from h2, e1, e2]; rfl] at hK
    exact fin_k tt_ok (rs := rs_r30_begin) rfl rfl hK [0] rfl rfl rfl rfl rfl rfl
  · rw [show begR k m ch = (m.word ch, 0) by unfold begR; rw [show priBad k = false from h, show idleB k ch = false from h2, err_zero h3]; rfl] at hK
    exact fin_k tt_ok (rs := rs_r30_begin) rfl rfl hK [0] rfl rfl rfl rfl rfl rfl
noncomputable abbrev eRbegin : Ent := .st (conS (P := Try.prog) (f := f_r30_begin) fun cargs σ0 => match cargs, σ0 with
  | [.agg cs, .s (.sl 0 0 n cap), .s (.int .i32 ch)], [.view xs] => withCore cs fun k hk => some ⟨.ex (Ram × Int × Int) fun p => .ask (n = p.1.l.length ∧ xs = bytesI p.1.l ∧ I32 ch ∧ begR k p.1 ch = p.2)
      (.ret (.tup [.s (.int .i32 p.2.1), .s (.int .i64 p.2.2)]) [.view (bytesI p.1.l)]), fun K h => by
      obtain ⟨⟨m, d', e'⟩, ⟨e1, e2, h1, h2⟩, h⟩ := h
      dsimp only at e1 e2 h1 h2 h
      subst e1; subst e2; subst hk
      refine Rbegin_c k m cap ch h1 K ?_
      rw [h2]; exact h⟩
  | _, _ => none)
theorem RSpace_c (d : Int) (h : I32 d) : Con Try.prog f_r29_Space [.s (.int .i32 d)] [] (.ret (.tup [.s (.int .i32 (wsp d)), .s (.int .i64 (d % 2))]) []) := by
  intro K hK
  refine enter fn_r29_Space rfl nt_r29_Space rfl rfl (fun φ w0 β0 F => ?_)
  refine c_run tt_ok (ct := []) trivial k_r29_Space [] 60 (by kernel_rfl) ?_
  refine fin_k tt_ok (rs := rs_r29_Space) rfl rfl hK [] (t2 ?_ ?_) rfl rfl rfl rfl rfl
  · rw [andNot3_i32 h]; rfl
  · rw [and1_i32, wrap64 (by omega) (by omega)]
def spRSpace : List TV → Option (Prop × FV)
  | [.s (.int .i32 d)] => some (I32 d, .tup [.s (.int .i32 (wsp d)), .s (.int .i64 (d % 2))])
  | _ => none
theorem ceRSpace : CEok Try.prog f_r29_Space spRSpace := ⟨cal_r29_Space, fun args p v h hp => by
  unfold spRSpace at h; split at h
  · cases h; exact (RSpace_c _ hp).pure
  · cases h⟩
noncomputable abbrev ctRW9 : CT := [(f_r03_Word, eRWordT)]
theorem ctRW9_ok : CTok Try.prog ctRW9 := ⟨con_ok cal_r03_Word _, trivial⟩
theorem RWord9_c (m : Ram) (cap : Nat) (w k : Int) : Con Try.prog f_r29_Word [.s (.sl 0 0 m.l.length cap), .s (.int .i32 w), .s (.int .i32 k)] [.view (bytesI m.l)]
    (.ret (.t (.s (.int .i32 (m.word (IntKind.i32.wrap (w + IntKind.i32.wrap (4 * k))))))) [.view (bytesI m.l)]) := by
  intro K hK
  refine enter fn_r29_Word rfl nt_r29_Word rfl rfl (fun φ w0 β0 F => ?_)
  refine c_run tt_ok ctRW9_ok k_r29_Word [] 60 (by kernel_rfl) ?_
  refine ⟨m, ⟨rfl, rfl, I32_wrap _⟩, ?_⟩
  exact fin_k tt_ok (rs := rs_r29_Word) rfl rfl hK [0] rfl rfl rfl rfl rfl rfl
noncomputable abbrev eRWord9 : Ent := .st (conS (P := Try.prog) (f := f_r29_Word) fun cargs σ0 => match cargs, σ0 with
  | [.s (.sl 0 0 n cap), .s (.int .i32 w), .s (.int .i32 k)], [.view xs] => some ⟨.ex Ram fun m => .ask (n = m.l.length ∧ xs = bytesI m.l)
      (.ret (.t (.s (.int .i32 (m.word (IntKind.i32.wrap (w + IntKind.i32.wrap (4 * k))))))) [.view (bytesI m.l)]), fun K h => by
      obtain ⟨m, ⟨e1, e2⟩, h⟩ := h
      subst e1; subst e2
      exact RWord9_c m cap w k K h⟩
  | _, _ => none)
noncomputable abbrev ctRAp : CT := [(f_r29_Space, .pure spRSpace), (f_r29_Valid, eRValid), (f_r29_Set, eRSet)]
theorem ctRAp_ok : CTok Try.prog ctRAp := ⟨ceRSpace, con_ok cal_r29_Valid _, con_ok cal_r29_Set _, trivial⟩
theorem RAppend_c (k : Core) (m : Ram) (cap : Nat) (d : Int) (k' : Core) (e' : Int) (m' : Ram) (hok : k.ok) (hd : I32 d) (hc : m.l.length ≤ cap) (hx : appR k m d = (k', e', m')) :
    Con Try.prog f_r29_Append [.agg k.sv, .s (.sl 0 0 m.l.length cap), .s (.int .i32 d)] [.view (bytesI m.l)] (RES m m' k' e') := by
  intro K hK
  refine enter fn_r29_Append rfl nt_r29_Append rfl rfl (fun φ w0 β0 F => ?_)
  refine c_run tt_ok ctRAp_ok k_r29_Append [100010] 60 (by kernel_rfl) ?_
  have h2 : d % 2 = 0 ∨ d % 2 = 1 := by omega
  rcases h2 with h2 | h2
  · have ho : odd d = false := by unfold odd; rw [h2]; rfl
    unfold appR at hx
    rw [ho] at hx
    refine ⟨hd, .t (.s (.int .i64 0)), fun β => by rw [h2], rfl, m, ⟨rfl, rfl, wsp_I32 hd⟩, fun h => ?_, fun h => ⟨fun h3 => ?_, fun h3 => ⟨m, ⟨rfl, rfl, hok.b0⟩, fun h4 => ?_, fun h4 => ?_⟩⟩⟩
    · rw [show (!validB m (wsp d)) = true from h] at hx
      cases hx
      refine WpE.into (aliasSlot 7 0 0 m.l.length cap rfl rfl) ?_
      refine fin_k tt_ok (rs := rs_r29_Append) rfl rfl (hK cap hc) [0, 3] rfl ?_ rfl rfl rfl rfl
      rw [seg_all]; rfl
    · rw [show (!validB m (wsp d)) = false from h, show (k.fr false == NP) = true from h3] at hx
      cases hx
      refine WpE.into (aliasSlot 7 0 0 m.l.length cap rfl rfl) ?_
      refine fin_k tt_ok (rs := rs_r29_Append) rfl rfl (hK cap hc) [0, 3] rfl ?_ rfl rfl rfl rfl
      rw [seg_all]; rfl
    · rw [show (!validB m (wsp d)) = false from h, show (k.fr false == NP) = false from h3, show validB m (k.bk false) = true from h4] at hx
      cases hx
      refine ⟨m, ⟨rfl, rfl, hc⟩, fun c h5 => ?_⟩
      refine fin_k tt_ok (rs := rs_r29_Append) rfl rfl (hK c (by rw [set_len]; exact h5)) [0, 3] rfl ?_ rfl rfl rfl rfl
      rfl
    · rw [show (!validB m (wsp d)) = false from h, show (k.fr false == NP) = false from h3, show validB m (k.bk false) = false from h4] at hx
      cases hx
      refine WpE.into (aliasSlot 7 0 0 m.l.length cap rfl rfl) ?_
      refine fin_k tt_ok (rs := rs_r29_Append) rfl rfl (hK cap hc) [0, 3] rfl ?_ rfl rfl rfl rfl
      rw [seg_all]; rfl
  · have ho : odd d = true := by unfold odd; rw [h2]; rfl
    unfold appR at hx
    rw [ho] at hx
    refine ⟨hd, .t (.s (.int .i64 1)), fun β => by rw [h2], rfl, m, ⟨rfl, rfl, wsp_I32 hd⟩, fun h => ?_, fun h => ⟨fun h3 => ?_, fun h3 => ⟨m, ⟨rfl, rfl, hok.b1⟩, fun h4 => ?_, fun h4 => ?_⟩⟩⟩
    · rw [show (!validB m (wsp d)) = true from h] at hx
      cases hx
      refine WpE.into (aliasSlot 7 0 0 m.l.length cap rfl rfl) ?_
      refine fin_k tt_ok (rs := rs_r29_Append) rfl rfl (hK cap hc) [0, 3] rfl ?_ rfl rfl rfl rfl
      rw [seg_all]; rfl
    · rw [show (!validB m (wsp d)) = false from h, show (k.fr true == NP) = true from h3] at hx
      cases hx
      refine WpE.into (aliasSlot 7 0 0 m.l.length cap rfl rfl) ?_
      refine fin_k tt_ok (rs := rs_r29_Append) rfl rfl (hK cap hc) [0, 3] rfl ?_ rfl rfl rfl rfl
      rw [seg_all]; rfl
    · rw [show (!validB m (wsp d)) = false from h, show (k.fr true == NP) = false from h3, show validB m (k.bk true) = true from h4] at hx
      cases hx
      refine ⟨m, ⟨rfl, rfl, hc⟩, fun c h5 => ?_⟩
      refine fin_k tt_ok (rs := rs_r29_Append) rfl rfl (hK c (by rw [set_len]; exact h5)) [0, 3] rfl ?_ rfl rfl rfl rfl
      rfl
    · rw [show (!validB m (wsp d)) = false from h, show (k.fr true == NP) = false from h3, show validB m (k.bk true) = false from h4] at hx
      cases hx
      refine WpE.into (aliasSlot 7 0 0 m.l.length cap rfl rfl) ?_
      refine fin_k tt_ok (rs := rs_r29_Append) rfl rfl (hK cap hc) [0, 3] rfl ?_ rfl rfl rfl rfl
      rw [seg_all]; rfl
noncomputable abbrev eRAppend : Ent := .st (conS (P := Try.prog) (f := f_r29_Append) fun cargs σ0 => match cargs, σ0 with
  | [.agg cs, .s (.sl 0 0 n cap), .s (.int .i32 d)], [.view xs] => withCore cs fun k hk => some ⟨.ex (Ram × Core × Int × Ram) fun p => .ask (n = p.1.l.length ∧ xs = bytesI p.1.l ∧ (k.ok ∧ I32 d ∧ p.1.l.length ≤ cap) ∧ appR k p.1 d = p.2) (RES p.1 p.2.2.2 p.2.1 p.2.2.1), fun K h => by
      obtain ⟨⟨m, k', e', m'⟩, ⟨e1, e2, ⟨h1, h2, h3⟩, h4⟩, h⟩ := h
      dsimp only at e1 e2 h1 h2 h3 h4 h
      subst e1; subst e2; subst hk
      exact RAppend_c k m cap d k' e' m' h1 h2 h3 h4 K h⟩
  | _, _ => none)
end Go.Proofs

namespace Go.Proofs
open Go Go.Sx
set_option maxRecDepth 10000
def cpOk (m : Ram) (to fr n : Int) : Bool := bif decide (Uw n > m.l.length) then false else bif Uw n == 0 then true else !mvBad m to fr n
def cpM (m : Ram) (to fr n : Int) : Ram := bif cpOk m to fr n then (bif decide (n > 0) then m.move to fr n else m) else m
noncomputable abbrev ctRCp : CT := [(f_r03_Index, .pure spIndex), (f_r03_Lies, .pure spLies)]
theorem ctRCp_ok : CTok Try.prog ctRCp := ⟨ceIndex, ceLies, trivial⟩
/-- Bytes of m, the first i of a move done. -/
structure Cpd (m : Ram) (to fr : Nat) (i : Nat) (X : List Int) : Prop where
  len : X.length = m.l.length
  val : ∀ j, X.getD j 0 = if to ≤ j ∧ j < to + i then m.l.getD (fr + (j - to)) 0 else m.l.getD j 0
theorem cpd_zero (m : Ram) (to fr : Nat) : Cpd m to fr 0 m.l := ⟨rfl, fun j => by rw [if_neg (by omega)]⟩
theorem cpd_succ {m : Ram} {to fr i : Nat} {X : List Int} (h : Cpd m to fr i X) (hi : to + i < m.l.length) : Cpd m to fr (i + 1) (X.set (to + i) (m.l.getD (fr + i) 0)) := by
  refine ⟨by rw [List.length_set]; exact h.len, fun j => ?_⟩
  have hv := h.val j
  simp only [List.getD_eq_getElem?_getD] at hv ⊢
  rw [List.getElem?_set]
  by_cases hj : to + i = j
  · subst hj
    rw [if_pos rfl, if_pos (by rw [h.len]; exact hi), if_pos (by omega), show fr + (to + i - to) = fr + i by omega]; rfl
  · rw [if_neg hj, hv]
    by_cases h2 : to ≤ j ∧ j < to + i
    · rw [if_pos h2, if_pos (by omega)]
    · rw [if_neg h2, if_neg (by omega)]
theorem cpd_move {m : Ram} {to fr n : Int} {X : List Int} (ht : I32 to) (hf : I32 fr) (hb : mvBad m to fr n = false) (hn : Uw n = n) (h : Cpd m (ofAt to).toNat (ofAt fr).toNat n.toNat X) : X = (m.move to fr n).l := by
  have h1 : spanBad m.l.length fr (Uw n) = false := by
    unfold mvBad at hb
    cases h1 : spanBad m.l.length fr (Uw n) <;> simp [h1] at hb ⊢
  have h2 : spanBad m.l.length to (Uw n) = false := by
    unfold mvBad at hb
    rw [h1] at hb; exact hb
  have i1 := spanBad_i hf h1
  have i2 := spanBad_i ht h2
  have hp := part_len hf h1
  have h0 := Uw_lo n
  rw [hn] at i1 i2 hp h0
  rw [move_ok ht hf hb]
  apply getD_ext
  · rw [h.len, setL_length (by rw [hp]; omega)]
  · intro j
    rw [h.val, setL_at (by rw [hp]; omega), hp]
    by_cases hj : (ofAt to).toNat ≤ j ∧ j < (ofAt to).toNat + n.toNat
    · rw [if_pos hj, if_pos hj]
      unfold Ram.part
      rw [hn]
      simp only [List.getD_eq_getElem?_getD]
      rw [List.getElem?_take, if_pos (by omega), List.getElem?_drop]
    · rw [if_neg hj, if_neg hj]
theorem Uw_nat {n : Int} (h : I32 n) {k : Nat} (hk : k ≤ 65536) (hu : Uw n ≤ k) : Uw n = n ∧ 0 ≤ n := by unfold I32 at h; unfold Uw at *; omega
theorem setV_one {X : List Int} {i : Nat} {v : Int} (h : i < X.length) : setV (bytesI X) (0 + i * (0 + 1)) (List.map SV.cv [SV.int IntKind.u8 v]) = bytesI (X.set i v) := by
  have e : List.map SV.cv [SV.int IntKind.u8 v] = bytesI [v] := rfl
  rw [e, Nat.zero_add, Nat.zero_add, Nat.mul_one, setV_bytesI]
  unfold setL
  rw [List.set_eq_take_append_cons_drop, if_pos h]
  simp
set_option maxHeartbeats 1000000 in
theorem Rcopied_c (m : Ram) (cap : Nat) (to fr n : Int) (ht : I32 to) (hf : I32 fr) (hn : I32 n) (hc : m.l.length ≤ cap) :
    Con Try.prog f_r30_copied [.s (.sl 0 0 m.l.length cap), .s (.int .i32 to), .s (.int .i32 fr), .s (.int .i32 n)] [.view (bytesI m.l)]
    (.all Nat (fun c => (cpM m to fr n).l.length ≤ c) fun c => .ret (.tup [.s (.sl 1 0 (cpM m to fr n).l.length c), .s (.bool (cpOk m to fr n))]) [.view (bytesI m.l), .view (bytesI (cpM m to fr n).l)]) := by
  intro K hK
  have hml := m.hi
  have hml0 := m.lo
  have hU0 := Uw_lo n
  have hU1 := Uw_hi n
  have eU : IntKind.i64.wrap (IntKind.u32.wrap n) = Uw n := by rw [IntKind.wrap_i64, IntKind.wrap_u32]; unfold Uw; omega
  refine enter fn_r30_copied rfl nt_r30_copied rfl rfl (fun φ w0 β0 F => ?_)
  refine c_run tt_ok ctRCp_ok k_r30_copied [100010] 60 (by kernel_rfl) ?_
  refine ⟨.t (.s (.int .i64 (Uw n))), fun β => by rw [eU], rfl, fun h1 => ?_, fun h1 => ⟨fun h2 => ?_, fun h2 => ⟨⟨by omega, by omega, hf⟩, fun _ => ⟨by omega, by omega, ht⟩, fun h3 => ?_, fun h3 => ?_⟩⟩⟩
  · have hk : cpOk m to fr n = false := by unfold cpOk; rw [show decide (Uw n > m.l.length) = true from h1]; rfl
    have hM : cpM m to fr n = m := by unfold cpM; rw [hk]; rfl
    rw [hk, hM] at hK
    refine WpE.into (aliasSlot 8 0 0 m.l.length cap rfl rfl) ?_
    refine fin_k tt_ok (rs := rs_r30_copied) rfl rfl (hK cap hc) [0, 1] rfl ?_ rfl rfl rfl rfl
    rw [seg_all]; rfl
  · have hk : cpOk m to fr n = true := by unfold cpOk; rw [show decide (Uw n > m.l.length) = false from h1, show (Uw n == 0) = true from h2]; rfl
    have hz : Uw n = 0 := by simpa using h2
    have hM : cpM m to fr n = m := by
      unfold cpM; rw [hk, show decide (n > 0) = false by have := Uw_nat hn hml (by omega); simp; omega]; rfl
    rw [hk, hM] at hK
    refine WpE.into (aliasSlot 8 0 0 m.l.length cap rfl rfl) ?_
    refine fin_k tt_ok (rs := rs_r30_copied) rfl rfl (hK cap hc) [0, 1] rfl ?_ rfl rfl rfl rfl
    rw [seg_all]; rfl
  · have hb : mvBad m to fr n = true := by
      unfold mvBad
      rw [lies_span _ _ _ hU0, lies_span _ _ _ hU0] at h3
      cases e1 : spanBad m.l.length fr (Uw n) <;> cases e2 : spanBad m.l.length to (Uw n) <;> simp [e1, e2] at h3 ⊢
    have hk : cpOk m to fr n = false := by unfold cpOk; rw [show decide (Uw n > m.l.length) = false from h1, show (Uw n == 0) = false from h2, hb]; rfl
    have hM : cpM m to fr n = m := by unfold cpM; rw [hk]; rfl
    rw [hk, hM] at hK
    refine WpE.into (aliasSlot 8 0 0 m.l.length cap rfl rfl) ?_
    refine fin_k tt_ok (rs := rs_r30_copied) rfl rfl (hK cap hc) [0, 1] rfl ?_ rfl rfl rfl rfl
    rw [seg_all]; rfl
  · have hb : mvBad m to fr n = false := by
      unfold mvBad
      rw [lies_span _ _ _ hU0, lies_span _ _ _ hU0] at h3
      cases e1 : spanBad m.l.length fr (Uw n) <;> cases e2 : spanBad m.l.length to (Uw n) <;> simp [e1, e2] at h3 ⊢
    have hu := Uw_nat hn hml (by have := of_decide_eq_false h1; omega)
    have hz : Uw n ≠ 0 := by simpa using h2
    have hk : cpOk m to fr n = true := by unfold cpOk; rw [show decide (Uw n > m.l.length) = false from h1, show (Uw n == 0) = false from h2, hb]; rfl
    have hM : cpM m to fr n = m.move to fr n := by
      unfold cpM; rw [hk, show decide (n > 0) = true by simp; omega]; rfl
    rw [hk, hM, move_len] at hK
    have i1 := spanBad_i hf (show spanBad m.l.length fr (Uw n) = false by unfold mvBad at hb; cases h : spanBad m.l.length fr (Uw n) <;> simp [h] at hb ⊢)
    have i2 := spanBad_i ht (show spanBad m.l.length to (Uw n) = false by unfold mvBad at hb; cases h : spanBad m.l.length to (Uw n) <;> cases h' : spanBad m.l.length fr (Uw n) <;> simp [h, h'] at hb ⊢)
    refine ⟨m.l.length, ⟨rfl, rfl, by simp only [maxLen]; omega, by omega⟩, ?_⟩
    refine ⟨m.l.length, ⟨by simp, by simp, by simp, ?_⟩, ?_⟩
    · rw [seg_bytesI]; exact bytesI_one _
    show WpC _ _ _ _ _
    refine c_loop (α := Nat × List Int) (fun x => (x.1 : Int) ≤ Uw n ∧ Cpd m (ofAt to).toNat (ofAt fr).toNat x.1 x.2) (fun x => (Uw n).toNat - x.1)
      (fun x => [(0, .t (.s (.sl 0 0 m.l.length cap)), none), (1, .t (.s (.int .i32 to)), none), (2, .t (.s (.int .i32 fr)), none), (10, .t (.s (.int .i64 (Uw n))), none), (11, .t (.s (.sl 1 0 m.l.length m.l.length)), none), (12, .t (.s (.int .i64 (x.1 : Int))), none)])
      (fun x => [.view (bytesI m.l), .own 5 1 m.l.length (bytesI x.2)]) (0, m.l) ⟨hU0, cpd_zero _ _ _⟩ ?_ ?_
    · refine into [0, 1] ⟨⟨_, rfl, rfl⟩, ⟨_, rfl, rfl⟩, ⟨_, rfl, rfl⟩, ⟨_, rfl, rfl⟩, ⟨_, rfl, rfl⟩, ⟨_, rfl, rfl⟩, trivial⟩ ⟨_, rfl, ?_⟩ rfl rfl rfl rfl
      rw [copy_all m.l _ (by simp)]; rfl
    · rintro ⟨i, X⟩ ⟨hi, hX⟩
      simp only at hi hX
      dsimp only
      refine c_run' tt_ok ctRCp_ok k_r30_copied [] 60 (by kernel_rfl) (by kernel_rfl) ?_
      refine ⟨fun h => ?_, fun h => ?_⟩
      · have hi2 : (i : Int) < Uw n := of_decide_eq_true h
        refine ⟨ht, hf, (ofAt fr).toNat + i, ⟨?_, ?_, ?_⟩, .int .u8 (m.l.getD ((ofAt fr).toNat + i) 0), rfl, ?_, ?_⟩
        · rw [wrap64 (by omega) (by omega)]; omega
        · omega
        · rw [bytesI_length]; show 0 + ((ofAt fr).toNat + i + 1) * 1 ≤ m.l.length; omega
        · show (bytesI m.l)[0 + ((ofAt fr).toNat + i) * 1]? = _
          rw [Nat.zero_add, Nat.mul_one]
          exact bytesI_at (by omega)
        refine ⟨(ofAt to).toNat + i, ⟨?_, ?_, ?_⟩, ?_⟩
        · rw [wrap64 (by omega) (by omega)]; omega
        · omega
        · rw [bytesI_length]; show 0 + ((ofAt to).toNat + i + 1) * 1 ≤ X.length; rw [hX.len]; omega
        refine ⟨?_, ?_⟩
        · rw [bytesI_length]; show 0 + ((ofAt to).toNat + i) * 1 + 1 ≤ X.length; rw [hX.len]; omega
        refine e_again (i + 1, X.set ((ofAt to).toNat + i) (m.l.getD ((ofAt fr).toNat + i) 0)) ⟨by show ((i + 1 : Nat) : Int) ≤ Uw n; omega, cpd_succ hX (by omega)⟩ (by show (Uw n).toNat - (i + 1) < (Uw n).toNat - i; omega) (into [0, 1] ⟨⟨_, rfl, rfl⟩, ⟨_, rfl, rfl⟩, ⟨_, rfl, rfl⟩, ⟨_, rfl, rfl⟩, ⟨_, rfl, rfl⟩, ⟨_, rfl, fvi (wrapSucc (by omega))⟩, trivial⟩ ⟨_, rfl, ?_⟩ rfl rfl rfl rfl)
        have e := setV_one (X := X) (i := (ofAt to).toNat + i) (v := m.l.getD ((ofAt fr).toNat + i) 0) (by rw [hX.len]; omega)
        rw [← e]
        rfl
      · have hi2 : i = n.toNat := by have := of_decide_eq_false h; omega
        subst hi2
        have hXm := cpd_move ht hf hb hu.1 hX
        show WpE _ _ _ _ _
        refine e_freeze 1 rfl rfl ?_
        refine fin_k tt_ok (rs := rs_r30_copied) rfl rfl (hK m.l.length (Nat.le_refl _)) [0, 1] rfl ?_ rfl rfl rfl rfl
        rw [← hXm]; rfl
noncomputable abbrev eRcopied : Ent := .st (conS (P := Try.prog) (f := f_r30_copied) fun cargs σ0 => match cargs, σ0 with
  | [.s (.sl 0 0 l cap), .s (.int .i32 to), .s (.int .i32 fr), .s (.int .i32 n)], [.view xs] => some ⟨.ex (Ram × Ram × Bool) fun p => .ask (l = p.1.l.length ∧ xs = bytesI p.1.l ∧ (I32 to ∧ I32 fr ∧ I32 n ∧ p.1.l.length ≤ cap) ∧ cpM p.1 to fr n = p.2.1 ∧ cpOk p.1 to fr n = p.2.2)
      (.all Nat (fun c => p.2.1.l.length ≤ c) fun c => .ret (.tup [.s (.sl 1 0 p.2.1.l.length c), .s (.bool p.2.2)]) [.view (bytesI p.1.l), .view (bytesI p.2.1.l)]), fun K h => by
      obtain ⟨⟨m, m', b⟩, ⟨e1, e2, ⟨h1, h2, h3, h4⟩, h5, h6⟩, h⟩ := h
      dsimp only at e1 e2 h1 h2 h3 h4 h5 h6 h
      subst e1; subst e2; subst h5; subst h6
      exact Rcopied_c m cap to fr n h1 h2 h3 h4 K h⟩
  | _, _ => none)
end Go.Proofs

namespace Go.Proofs
open Go Go.Sx
set_option maxRecDepth 10000
theorem appR_bad {k : Core} {m m' : Ram} {d : Int} (hl : m'.l.length = m.l.length) (h : queuedB k m d = false) : appR k m' d = (.zero, 4, m') := by
  unfold queuedB at h
  unfold appR
  rw [validB_len hl, validB_len hl]
  cases h1 : validB m (wsp d) <;> simp only [h1, cond_true, cond_false] at h
  · rfl
  · cases hE : (k.fr (odd d) == NP)
    · rw [hE] at h
      simp only [cond_false] at h
      rw [h]; rfl
    · rw [hE] at h; exact absurd h (by simp)
theorem cpM_len (m : Ram) (to fr n : Int) : (cpM m to fr n).l.length = m.l.length := by
  unfold cpM
  cases cpOk m to fr n
  · rfl
  · cases decide (n > 0)
    · rfl
    · exact move_len _ _ _ _
/-- What the reference's finishes returns. -/
def finF (k : Core) (m : Ram) (ch d : Int) : Core × Int × Ram := bif (appR k (m.set ch NP) d).2.1 != 0 then (.zero, (appR k (m.set ch NP) d).2.1, m) else ((appR k (m.set ch NP) d).1.abc 0 0 0, 0, (appR k (m.set ch NP) d).2.2)
theorem finF_eq {k : Core} {m m' : Ram} {ch d : Int} (hl : m'.l.length = m.l.length) : finF k m' ch d = bif queuedB k m d then finiR k m' ch d else (.zero, 4, m') := by
  unfold finF finiR
  have hl2 : (m'.set ch NP).l.length = m.l.length := by rw [set_len]; exact hl
  cases hq : queuedB k m d
  · rw [appR_bad hl2 hq]; rfl
  · rw [appR_ok hl2 hq]; rfl
theorem cop_ref (k : Core) (m : Ram) (to fr n ch d : Int) (hn : I32 n) : copR k m to fr n ch d = bif !cpOk m to fr n then (.zero, 4, m) else bif (finF k (cpM m to fr n) ch d).2.1 != 0 then (.zero, (finF k (cpM m to fr n) ch d).2.1, m) else finF k (cpM m to fr n) ch d := by
  have hf := finF_eq (k := k) (m := m) (m' := cpM m to fr n) (ch := ch) (d := d) (cpM_len m to fr n)
  have hml := m.hi
  unfold copR
  cases hq : queuedB k m d
  · rw [hq] at hf
    rw [hf]
    cases cpOk m to fr n <;> rfl
  · rw [hq] at hf
    have hz : (finiR k (cpM m to fr n) ch d).2.1 = 0 := finiR_ok (cpM_len m to fr n) hq
    rw [hf]
    simp only [cond_true, Bool.not_true, cond_false]
    rw [hz]
    cases hu : decide (Uw n > m.l.length)
    · have hu' := Uw_nat hn hml (by have := of_decide_eq_false hu; omega)
      by_cases h0 : n > 0
      · have hne : (Uw n == 0) = false := by simp; omega
        cases hb : mvBad m to fr n
        · have hk : cpOk m to fr n = true := by unfold cpOk; rw [hu, hne, hb]; rfl
          rw [hk, decide_eq_true h0]
          unfold cpM
          rw [hk, decide_eq_true h0]
          rfl
        · have hk : cpOk m to fr n = false := by unfold cpOk; rw [hu, hne, hb]; rfl
          rw [hk, decide_eq_true h0]
          rfl
      · have hne : (Uw n == 0) = true := by simp; omega
        have hk : cpOk m to fr n = true := by unfold cpOk; rw [hu, hne]; rfl
        rw [hk, decide_eq_false h0]
        unfold cpM
        rw [hk, decide_eq_false h0]
        rfl
    · have hk : cpOk m to fr n = false := by unfold cpOk; rw [hu]; rfl
      rw [hk]; rfl
noncomputable abbrev ctRFi : CT := [(f_r03_SetWord, eRSetWordT), (f_r29_Append, eRAppend)]
theorem ctRFi_ok : CTok Try.prog ctRFi := ⟨con_ok cal_r03_SetWord _, con_ok cal_r29_Append _, trivial⟩
theorem Rfin_c (k : Core) (m : Ram) (cap : Nat) (ch d : Int) (hok : k.ok) (hch : I32 ch) (hd : I32 d) (hc : m.l.length ≤ cap) (k' : Core) (e' : Int) (m' : Ram) (hx : finF k m ch d = (k', e', m')) :
    Con Try.prog f_r30_finishes [.agg k.sv, .s (.sl 0 0 m.l.length cap), .s (.int .i32 ch), .s (.int .i32 d)] [.view (bytesI m.l)] (RES m m' k' e') := by
  intro K hK
  unfold finF at hx
  refine enter fn_r30_finishes rfl nt_r30_finishes rfl rfl (fun φ w0 β0 F => ?_)
  refine c_run tt_ok ctRFi_ok k_r30_finishes [] 60 (by kernel_rfl) ?_
  obtain ⟨⟨k2, e2, m2⟩, hy⟩ : ∃ y, appR k (m.set ch NP) d = y := ⟨_, rfl⟩
  rw [hy] at hx
  refine ⟨m, ⟨rfl, rfl, hch, hc⟩, fun c h1 => ⟨(m.set ch NP, k2, e2, m2), ⟨rfl, rfl, ⟨hok, hd, by rw [set_len]; exact h1⟩, hy⟩, fun c2 h2 => ⟨fun h3 => ?_, fun h3 => ?_⟩⟩⟩
  · rw [show (e2 != 0) = true from h3] at hx
    cases hx
    refine WpE.into (aliasSlot 9 0 0 m.l.length cap rfl rfl) ?_
    refine fin_k tt_ok (rs := rs_r30_finishes) rfl rfl (hK cap hc) [0, 5] rfl ?_ rfl rfl rfl rfl
    rw [seg_all]; rfl
  · rw [show (e2 != 0) = false from h3] at hx
    cases hx
    refine fin_k tt_ok (rs := rs_r30_finishes) rfl rfl (hK c2 h2) [0, 4] rfl rfl rfl rfl rfl rfl
noncomputable abbrev eRfin : Ent := .st (conS (P := Try.prog) (f := f_r30_finishes) fun cargs σ0 => match cargs, σ0 with
  | [.agg cs, .s (.sl 0 0 n cap), .s (.int .i32 ch), .s (.int .i32 d)], [.view xs] => withCore cs fun k hk => some ⟨.ex (Ram × Core × Int × Ram) fun p => .ask (n = p.1.l.length ∧ xs = bytesI p.1.l ∧ (k.ok ∧ I32 ch ∧ I32 d ∧ p.1.l.length ≤ cap) ∧ finF k p.1 ch d = p.2) (RES p.1 p.2.2.2 p.2.1 p.2.2.1), fun K h => by
      obtain ⟨⟨m, k', e', m'⟩, ⟨e1, e2, ⟨h1, h2, h3, h4⟩, h5⟩, h⟩ := h
      dsimp only at e1 e2 h1 h2 h3 h4 h5 h
      subst e1; subst e2; subst hk
      exact Rfin_c k m cap ch d h1 h2 h3 h4 k' e' m' h5 K h⟩
  | _, _ => none)
theorem waR_eq (k : Core) (m : Ram) (hb : k.busy = true) (hv : validB m k.wptr = true) : waR k m = (k.nobody, 0, m.set (IntKind.i32.wrap (k.wptr + -4)) k.iptr) := by
  unfold waR; rw [hb, hv]; rfl
noncomputable abbrev ctRWs : CT := [(f_r29_Valid, eRValid), (f_r03_SetWord, eRSetWordT), (f_r29_Set, eRSet), (f_r29_Wait, eRWait)]
theorem ctRWs_ok : CTok Try.prog ctRWs := ⟨con_ok cal_r29_Valid _, con_ok cal_r03_SetWord _, con_ok cal_r29_Set _, con_ok cal_r29_Wait _, trivial⟩
theorem RWaits_c (k : Core) (m : Ram) (cap : Nat) (ch at_ : Int) (hw0 : I32 k.wptr) (hb : k.busy = true) (hch : I32 ch) (hc : m.l.length ≤ cap) (k' : Core) (e' : Int) (m' : Ram) (hx : wtsR k m ch at_ = (k', e', m')) :
    Con Try.prog f_r30_Waits [.agg k.sv, .s (.sl 0 0 m.l.length cap), .s (.int .i32 ch), .s (.int .i32 at_)] [.view (bytesI m.l)] (RES m m' k' e') := by
  intro K hK
  refine enter fn_r30_Waits rfl nt_r30_Waits rfl rfl (fun φ w0 β0 F => ?_)
  refine c_run tt_ok ctRWs_ok k_r30_Waits [] 60 (by kernel_rfl) ?_
  refine ⟨m, ⟨rfl, rfl, hw0⟩, fun h => ?_, fun h => ⟨m, ⟨rfl, rfl, hch, hc⟩, fun c h1 => ?_⟩⟩
  · unfold wtsR at hx
    rw [show (!validB m k.wptr) = true from h] at hx
    cases hx
    refine WpE.into (aliasSlot 9 0 0 m.l.length cap rfl rfl) ?_
    refine fin_k tt_ok (rs := rs_r30_Waits) rfl rfl (hK cap hc) [0, 3] rfl ?_ rfl rfl rfl rfl
    rw [seg_all]; rfl
  · have hv : validB m k.wptr = true := by simpa using h
    rw [wtsR_eq hb hv] at hx
    have hw := waR_eq k (wtM k m ch at_) hb (by rw [validB_len (wtM_len k m ch at_)]; exact hv)
    cases hx
    refine ⟨m.set ch (ownAt k.wptr k.pri), ⟨rfl, rfl, by rw [set_len]; exact h1⟩, fun c2 h2 => ⟨(wtM k m ch at_, k.nobody, 0, (wtM k m ch at_).set (IntKind.i32.wrap (k.wptr + -4)) k.iptr), ⟨rfl, rfl, hw0, by rw [wtM_len]; rw [set_len] at h2; exact h2, hw⟩, fun c3 h3 => ?_⟩⟩
    refine fin_k tt_ok (rs := rs_r30_Waits) rfl rfl (hK c3 h3) [0, 5] rfl rfl rfl rfl rfl rfl
noncomputable abbrev eRWaits : Ent := .st (conS (P := Try.prog) (f := f_r30_Waits) fun cargs σ0 => match cargs, σ0 with
  | [.agg cs, .s (.sl 0 0 n cap), .s (.int .i32 ch), .s (.int .i32 at_)], [.view xs] => withCore cs fun k hk => some ⟨.ex (Ram × Core × Int × Ram) fun p => .ask (n = p.1.l.length ∧ xs = bytesI p.1.l ∧ (I32 k.wptr ∧ k.busy = true ∧ I32 ch ∧ p.1.l.length ≤ cap) ∧ wtsR k p.1 ch at_ = p.2) (RES p.1 p.2.2.2 p.2.1 p.2.2.1), fun K h => by
      obtain ⟨⟨m, k', e', m'⟩, ⟨e1, e2, ⟨h1, h2, h3, h4⟩, h5⟩, h⟩ := h
      dsimp only at e1 e2 h1 h2 h3 h4 h5 h
      subst e1; subst e2; subst hk
      exact RWaits_c k m cap ch at_ h1 h2 h3 h4 k' e' m' h5 K h⟩
  | _, _ => none)
end Go.Proofs

namespace Go.Proofs
open Go Go.Sx
set_option maxRecDepth 10000
noncomputable abbrev ctRIn : CT := [(f_r30_begin, eRbegin), (f_r30_Waits, eRWaits), (f_r29_Space, .pure spRSpace), (f_r29_Valid, eRValid), (f_r29_Word, eRWord9), (f_r30_copied, eRcopied), (f_r30_finishes, eRfin), (f_r29_Set, eRSet), (f_r29_Append, eRAppend)]
theorem ctRIn_ok : CTok Try.prog ctRIn := ⟨con_ok cal_r30_begin _, con_ok cal_r30_Waits _, ceRSpace, con_ok cal_r29_Valid _, con_ok cal_r29_Word _, con_ok cal_r30_copied _, con_ok cal_r30_finishes _, con_ok cal_r29_Set _, con_ok cal_r29_Append _, trivial⟩
theorem RIn_c (k : Core) (m : Ram) (cap : Nat) (n ch at_ : Int) (hok : k.ok) (hn : I32 n) (hch : I32 ch) (ha : I32 at_) (hc : m.l.length ≤ cap) (k' : Core) (e' : Int) (m' : Ram) (hx : inR k m n ch at_ = (k', e', m')) :
    Con Try.prog f_r30_In [.agg k.sv, .s (.sl 0 0 m.l.length cap), .s (.int .i32 n), .s (.int .i32 ch), .s (.int .i32 at_)] [.view (bytesI m.l)] (RES m m' k' e') := by
  intro K hK
  have hI := begR_I32 k m ch
  unfold inR at hx
  generalize hb : begR k m ch = b at hI hx
  obtain ⟨d, e⟩ := b
  dsimp only at hI hx
  unfold inR2 at hx
  refine enter fn_r30_In rfl nt_r30_In rfl rfl (fun φ w0 β0 F => ?_)
  refine c_run tt_ok ctRIn_ok k_r30_In [] 60 (by kernel_rfl) ?_
  refine ⟨(m, d, e), ⟨rfl, rfl, hch, hb⟩, fun h => ?_, fun h => ?_⟩
  · rw [show (e != 0) = true from h] at hx
    cases hx
    refine WpE.into (aliasSlot 11 0 0 m.l.length cap rfl rfl) ?_
    refine fin_k tt_ok (rs := rs_r30_In) rfl rfl (hK cap hc) [0, 3] rfl ?_ rfl rfl rfl rfl
    rw [seg_all]; rfl
  have he : e = 0 := by simpa using h
  obtain ⟨_, _, hbusy, _, _, _⟩ := begR_busy (k := k) (m := m) (ch := ch) (by rw [hb]; exact he)
  rw [show (e != 0) = false from h] at hx
  refine ⟨fun h2 => ?_, fun h2 => ?_⟩
  · rw [show (d == NP) = true from h2] at hx
    refine ⟨(m, k', e', m'), ⟨rfl, rfl, ⟨hok.wptr, hbusy, hch, hc⟩, hx⟩, fun c h3 => ?_⟩
    exact fin_k tt_ok (rs := rs_r30_In) rfl rfl (hK c h3) [0, 3] rfl rfl rfl rfl rfl rfl
  rw [show (d == NP) = false from h2] at hx
  refine ⟨hI, m, ⟨rfl, rfl, wsp_I32 hI⟩, fun h3 => ?_, fun h3 => ?_⟩
  · rw [show (!validB m (wsp d)) = true from h3] at hx
    cases hx
    refine WpE.into (aliasSlot 11 0 0 m.l.length cap rfl rfl) ?_
    refine fin_k tt_ok (rs := rs_r30_In) rfl rfl (hK cap hc) [0, 3] rfl ?_ rfl rfl rfl rfl
    rw [seg_all]; rfl
  rw [show (!validB m (wsp d)) = false from h3] at hx
  simp only [cond_false] at hx
  rw [cop_ref k m at_ (m.word (stA d)) n ch d hn] at hx
  obtain ⟨cm, hcm⟩ : ∃ cm, cpM m at_ (m.word (stA d)) n = cm := ⟨_, rfl⟩
  obtain ⟨cb, hcb⟩ : ∃ cb, cpOk m at_ (m.word (stA d)) n = cb := ⟨_, rfl⟩
  have hcl : cm.l.length = m.l.length := by rw [← hcm]; exact cpM_len _ _ _ _
  rw [hcm, hcb] at hx
  refine ⟨m, ⟨rfl, rfl⟩, (m, cm, cb), ⟨rfl, rfl, ⟨ha, word_I32 _ _, hn, hc⟩, hcm, hcb⟩, fun c h4 => ⟨fun h5 => ?_, fun h5 => ?_⟩⟩
  · rw [show (!cb) = true from h5] at hx
    cases hx
    refine WpE.into (aliasSlot 11 0 0 m.l.length cap rfl rfl) ?_
    refine fin_k tt_ok (rs := rs_r30_In) rfl rfl (hK cap hc) [0, 4] rfl ?_ rfl rfl rfl rfl
    rw [seg_all]; rfl
  rw [show (!cb) = false from h5] at hx
  obtain ⟨⟨k2, e2, m2⟩, hy⟩ : ∃ y, finF k cm ch d = y := ⟨_, rfl⟩
  rw [hy] at hx
  refine ⟨(cm, k2, e2, m2), ⟨rfl, rfl, ⟨hok, hch, hI, h4⟩, hy⟩, fun c2 h6 => ⟨fun h7 => ?_, fun h7 => ?_⟩⟩
  · rw [show (e2 != 0) = true from h7] at hx
    cases hx
    refine WpE.into (aliasSlot 11 0 0 m.l.length cap rfl rfl) ?_
    refine fin_k tt_ok (rs := rs_r30_In) rfl rfl (hK cap hc) [0, 5] rfl ?_ rfl rfl rfl rfl
    rw [seg_all]; rfl
  · have he2 : e2 = 0 := by simpa using h7
    rw [show (e2 != 0) = false from h7] at hx
    subst he2
    cases hx
    exact fin_k tt_ok (rs := rs_r30_In) rfl rfl (hK c2 h6) [0, 4] rfl rfl rfl rfl rfl rfl
noncomputable abbrev eRIn : Ent := .st (conS (P := Try.prog) (f := f_r30_In) fun cargs σ0 => match cargs, σ0 with
  | [.agg cs, .s (.sl 0 0 l cap), .s (.int .i32 n), .s (.int .i32 ch), .s (.int .i32 at_)], [.view xs] => withCore cs fun k hk => some ⟨.ex (Ram × Core × Int × Ram) fun p => .ask (l = p.1.l.length ∧ xs = bytesI p.1.l ∧ (k.ok ∧ I32 n ∧ I32 ch ∧ I32 at_ ∧ p.1.l.length ≤ cap) ∧ inR k p.1 n ch at_ = p.2) (RES p.1 p.2.2.2 p.2.1 p.2.2.1), fun K h => by
      obtain ⟨⟨m, k', e', m'⟩, ⟨e1, e2, ⟨h1, h2, h3, h4, h5⟩, h6⟩, h⟩ := h
      dsimp only at e1 e2 h1 h2 h3 h4 h5 h6 h
      subst e1; subst e2; subst hk
      exact RIn_c k m cap n ch at_ h1 h2 h3 h4 h5 k' e' m' h6 K h⟩
  | _, _ => none)
end Go.Proofs

namespace Go.Proofs
open Go Go.Sx
set_option maxRecDepth 10000
theorem validB_bad {m : Ram} {w : Int} (hw : I32 w) (h : validB m w = true) : wBad m (IntKind.i32.wrap (w + -12)) = false := by
  have hal := m.al
  unfold validB at h
  cases h1 : (w % 4 == 0)
  · rw [h1] at h; exact absurd h (by simp)
  cases h2 : decide (ofAt w ≥ 20)
  · rw [h1, h2] at h; exact absurd h (by simp)
  rw [h1, h2] at h
  have h3 := of_decide_eq_true (show decide (ofAt w + 4 ≤ m.l.length) = true from h)
  have h2' := of_decide_eq_true h2
  have h1' : w % 4 = 0 := by simpa using h1
  unfold I32 at hw
  unfold ofAt at h2' h3
  have e : IntKind.i32.wrap (w + -12) = w - 12 := by rw [IntKind.wrap_i32]; omega
  rw [e]
  unfold wBad spanBad ofAt wAt
  rw [show decide (w - 12 - (w - 12) % 4 + 2147483648 ≥ (m.l.length : Int)) = false by simp; omega]
  simp; omega
theorem oBad_A (k : Core) (m : Ram) (d : Int) : oBad k m d (-2147483647) = !validB m k.wptr := by unfold oBad; cases validB m k.wptr <;> rfl
theorem oBad_C (k : Core) (m : Ram) (d : Int) : oBad k m d (-2147483645) = !validB m k.wptr := by unfold oBad; cases validB m k.wptr <;> rfl
theorem oBad_B (k : Core) (m : Ram) (d : Int) : oBad k m d (-2147483646) = bif !validB m k.wptr then true else !queuedB k m d := by unfold oBad; cases validB m k.wptr <;> rfl
theorem wts_err {k : Core} {m : Ram} {ch at_ : Int} (h : validB m k.wptr = false) : wtsR k m ch at_ = (.zero, 4, m) := by unfold wtsR; rw [h]; rfl
theorem wts_case {k : Core} {m m1 : Ram} {ch at_ : Int} (hb : k.busy = true) (hl : m1.l.length = m.l.length) :
    (validB m k.wptr = true ∧ (wtsR k m1 ch at_).2.1 = 0) ∨ (validB m k.wptr = false ∧ wtsR k m1 ch at_ = (.zero, 4, m1)) := by
  have hv : validB m1 k.wptr = validB m k.wptr := validB_len hl _
  cases h : validB m k.wptr
  · exact .inr ⟨rfl, wts_err (by rw [hv]; exact h)⟩
  · exact .inl ⟨rfl, by rw [wtsR_eq hb (by rw [hv]; exact h)]⟩
set_option maxHeartbeats 1000000 in
theorem ROut_c (k : Core) (m : Ram) (cap : Nat) (n ch at_ : Int) (hok : k.ok) (hn : I32 n) (hch : I32 ch) (ha : I32 at_) (hc : m.l.length ≤ cap) (k' : Core) (e' : Int) (m' : Ram) (hx : outR k m n ch at_ = (k', e', m')) :
    Con Try.prog f_r30_Out [.agg k.sv, .s (.sl 0 0 m.l.length cap), .s (.int .i32 n), .s (.int .i32 ch), .s (.int .i32 at_)] [.view (bytesI m.l)] (RES m m' k' e') := by
  intro K hK
  have hI := begR_I32 k m ch
  unfold outR at hx
  generalize hb : begR k m ch = b at hI hx
  obtain ⟨d, e⟩ := b
  dsimp only at hI hx
  unfold outR2 at hx
  refine enter fn_r30_Out rfl nt_r30_Out rfl rfl (fun φ w0 β0 F => ?_)
  refine c_run tt_ok ctRIn_ok k_r30_Out [100017] 90 (by kernel_rfl) ?_
  refine ⟨(m, d, e), ⟨rfl, rfl, hch, hb⟩, fun h => ?_, fun h => ?_⟩
  · rw [show (e != 0) = true from h] at hx
    cases hx
    refine WpE.into (aliasSlot 11 0 0 m.l.length cap rfl rfl) ?_
    refine fin_k tt_ok (rs := rs_r30_Out) rfl rfl (hK cap hc) [0, 3] rfl ?_ rfl rfl rfl rfl
    rw [seg_all]; rfl
  have he : e = 0 := by simpa using h
  subst he
  obtain ⟨_, _, hbusy, _, _, _⟩ := begR_busy (k := k) (m := m) (ch := ch) (by rw [hb])
  rw [show ((0 : Int) != 0) = false from h] at hx
  refine ⟨fun h2 => ?_, fun h2 => ?_⟩
  · rw [show (d == NP) = true from h2] at hx
    refine ⟨(m, k', e', m'), ⟨rfl, rfl, ⟨hok.wptr, hbusy, hch, hc⟩, hx⟩, fun c h3 => ?_⟩
    exact fin_k tt_ok (rs := rs_r30_Out) rfl rfl (hK c h3) [0, 3] rfl rfl rfl rfl rfl rfl
  rw [show (d == NP) = false from h2] at hx
  refine ⟨hI, m, ⟨rfl, rfl, wsp_I32 hI⟩, fun h3 => ?_, fun h3 => ?_⟩
  · rw [show (!validB m (wsp d)) = true from h3] at hx
    cases hx
    refine WpE.into (aliasSlot 11 0 0 m.l.length cap rfl rfl) ?_
    refine fin_k tt_ok (rs := rs_r30_Out) rfl rfl (hK cap hc) [0, 3] rfl ?_ rfl rfl rfl rfl
    rw [seg_all]; rfl
  rw [show (!validB m (wsp d)) = false from h3] at hx
  simp only [cond_false] at hx
  have hvd : validB m (wsp d) = true := by simpa using h3
  obtain ⟨s, hs⟩ : ∃ s, m.word (stA d) = s := ⟨_, rfl⟩
  have hsI : I32 s := by rw [← hs]; exact word_I32 _ _
  rw [hs] at hx
  have hs4 : s = -2147483647 ∨ s = -2147483646 ∨ s = -2147483645 ∨ naltB s = true := by
    unfold naltB
    by_cases h1 : s = -2147483647
    · exact .inl h1
    by_cases h2 : s = -2147483646
    · exact .inr (.inl h2)
    by_cases h3 : s = -2147483645
    · exact .inr (.inr (.inl h3))
    · refine .inr (.inr (.inr ?_)); simp [h1, h2, h3]
  rcases hs4 with rfl | rfl | rfl | hna
  · rw [show naltB (-2147483647) = false by decide, oBad_A] at hx
    have hA : oApp k m d (-2147483647) = (k, 0, m.set (stA d) (-2147483645)) := rfl
    rw [hA] at hx
    obtain ⟨⟨k2, e2, m2⟩, hy⟩ : ∃ y, wtsR k (m.set (stA d) (-2147483645)) ch at_ = y := ⟨_, rfl⟩
    refine ⟨m, ⟨rfl, rfl⟩, .t (.s (.int .i32 (-2147483647))), fun β => by rw [← hs]; rfl, rfl, fun _ => ?_, fun h => absurd h (by decide)⟩
    refine ⟨m, ⟨rfl, rfl, hc⟩, fun c h4 => ⟨fun h => absurd h (by decide), fun _ => ⟨fun _ => ?_, fun h => absurd h (by simp)⟩⟩⟩
    refine ⟨(m.set (stA d) (-2147483645), k2, e2, m2), ⟨rfl, rfl, ⟨hok.wptr, hbusy, hch, by rw [set_len]; exact h4⟩, hy⟩, fun c2 h5 => ?_⟩
    refine ⟨fun h6 => ?_, fun h6 => ⟨fun h7 => ?_, fun h7 => absurd h7 (by have h6' : (e2 == 0) = false := h6; simp at h6' ⊢; exact h6')⟩⟩
    · have he2 : e2 = 0 := by simpa using h6
      subst he2
      rcases wts_case (k := k) (m := m) (m1 := m.set (stA d) (-2147483645)) (ch := ch) (at_ := at_) hbusy (set_len _ _ _) with ⟨hv, h8⟩ | ⟨hv, h8⟩
      · rw [hv] at hx
        simp only [Bool.not_true, cond_false] at hx
        rw [hy] at hx
        cases hx
        exact fin_k tt_ok (rs := rs_r30_Out) rfl rfl (hK c2 h5) [0, 5] rfl rfl rfl rfl rfl rfl
      · rw [hy] at h8
        cases h8
    · have he2 : e2 ≠ 0 := by simpa using h6
      rcases wts_case (k := k) (m := m) (m1 := m.set (stA d) (-2147483645)) (ch := ch) (at_ := at_) hbusy (set_len _ _ _) with ⟨hv, h8⟩ | ⟨hv, h8⟩
      · rw [hy] at h8
        exact absurd h8 he2
      · rw [hv] at hx
        simp only [Bool.not_false, cond_false, cond_true] at hx
        rw [hy] at h8
        cases h8
        cases hx
        refine WpE.into (aliasSlot 11 0 0 m.l.length cap rfl rfl) ?_
        refine fin_k tt_ok (rs := rs_r30_Out) rfl rfl (hK cap hc) [0, 6] rfl ?_ rfl rfl rfl rfl
        rw [seg_all]; rfl
  · rw [show naltB (-2147483646) = false by decide, oBad_B] at hx
    have hA : oApp k m d (-2147483646) = appR k (m.set (stA d) (-2147483645)) d := rfl
    rw [hA] at hx
    have hl1 : (m.set (stA d) (-2147483645)).l.length = m.l.length := set_len _ _ _
    obtain ⟨⟨k1, e1, m1⟩, hz⟩ : ∃ y, appR k (m.set (stA d) (-2147483645)) d = y := ⟨_, rfl⟩
    refine ⟨m, ⟨rfl, rfl⟩, .t (.s (.int .i32 (-2147483646))), fun β => by rw [← hs]; rfl, rfl, fun _ => ?_, fun h => absurd h (by decide)⟩
    refine ⟨m, ⟨rfl, rfl, hc⟩, fun c h4 => ⟨fun _ => ⟨(m.set (stA d) (-2147483645), k1, e1, m1), ⟨rfl, rfl, ⟨hok, hI, by rw [set_len]; exact h4⟩, hz⟩, fun c1 h5 => ⟨fun h6 => ?_, fun h6 => ?_⟩⟩, fun h => absurd h (by decide)⟩⟩
    · have he1 : e1 = 0 := by
        by_cases h : e1 = 0
        · exact h
        · have h' : (e1 == 0) = false := by simp [h]
          have h6' : (bif e1 == 0 then bif (bif (-2147483646 : Int) == -2147483647 then true else (-2147483646 : Int) == -2147483646) then true else (-2147483646 : Int) == -2147483645 else false) = true := h6
          rw [h'] at h6'
          exact absurd h6' (by decide)
      subst he1
      have hq : queuedB k m d = true := by
        cases hq : queuedB k m d
        · rw [appR_bad hl1 hq] at hz; cases hz
        · rfl
      have hb1 : k1.busy = true := by have := appR_busy (k := k) (m := m.set (stA d) (-2147483645)) (d := d) (by rw [hz]); rw [hz] at this; exact this.trans hbusy
      have hw1 : k1.wptr = k.wptr := by have := appR_wptr k (m.set (stA d) (-2147483645)) d (by rw [hz]); rw [hz] at this; exact this
      have hl2 : m1.l.length = m.l.length := by have := appR_len k (m.set (stA d) (-2147483645)) d; rw [hz, hl1] at this; exact this
      rw [hq, hz] at hx
      obtain ⟨⟨k2, e2, m2⟩, hy⟩ : ∃ y, wtsR k1 m1 ch at_ = y := ⟨_, rfl⟩
      refine ⟨(m1, k2, e2, m2), ⟨rfl, rfl, ⟨by rw [hw1]; exact hok.wptr, hb1, hch, h5⟩, hy⟩, fun c2 h7 => ?_⟩
      refine ⟨fun h6 => ?_, fun h6 => ⟨fun h7 => ?_, fun h7 => absurd h7 (by have h6' : (e2 == 0) = false := h6; simp at h6' ⊢; exact h6')⟩⟩
      · have he2 : e2 = 0 := by simpa using h6
        subst he2
        rcases wts_case (k := k1) (m := m) (m1 := m1) (ch := ch) (at_ := at_) hb1 hl2 with ⟨hv, h8⟩ | ⟨hv, h8⟩
        · rw [hw1] at hv
          rw [hv] at hx
          simp only [Bool.not_true, cond_false] at hx
          rw [hy] at hx
          cases hx
          exact fin_k tt_ok (rs := rs_r30_Out) rfl rfl (hK c2 h7) [0, 6] rfl rfl rfl rfl rfl rfl
        · rw [hy] at h8
          cases h8
      · have he2 : e2 ≠ 0 := by simpa using h6
        rcases wts_case (k := k1) (m := m) (m1 := m1) (ch := ch) (at_ := at_) hb1 hl2 with ⟨hv, h8⟩ | ⟨hv, h8⟩
        · rw [hy] at h8
          exact absurd h8 he2
        · rw [hw1] at hv
          rw [hv] at hx
          simp only [Bool.not_true, Bool.not_false, cond_false, cond_true] at hx
          rw [hy] at h8
          cases h8
          cases hx
          refine WpE.into (aliasSlot 11 0 0 m.l.length cap rfl rfl) ?_
          refine fin_k tt_ok (rs := rs_r30_Out) rfl rfl (hK cap hc) [0, 7] rfl ?_ rfl rfl rfl rfl
          rw [seg_all]; rfl
    · have he1 : e1 ≠ 0 := by
        intro h
        subst h
        exact absurd h6 (by simp)
      have hq : queuedB k m d = false := by
        cases hq : queuedB k m d
        · rfl
        · have := appR_ok (m' := m.set (stA d) (-2147483645)) hl1 hq; rw [hz] at this; exact absurd this he1
      have h41 := appR_bad hl1 hq
      rw [hz] at h41
      cases h41
      rw [hq] at hx
      have hx' : ((Core.zero, (4 : Int), m) : Core × Int × Ram) = (k', e', m') := by
        rw [← hx]; cases validB m k.wptr <;> rfl
      cases hx'
      refine ⟨fun _ => ?_, fun h => absurd h (by simp)⟩
      refine WpE.into (aliasSlot 11 0 0 m.l.length cap rfl rfl) ?_
      refine fin_k tt_ok (rs := rs_r30_Out) rfl rfl (hK cap hc) [0, 6] rfl ?_ rfl rfl rfl rfl
      rw [seg_all]; rfl
  · rw [show naltB (-2147483645) = false by decide, oBad_C] at hx
    have hA : oApp k m d (-2147483645) = (k, 0, m) := by
      show (k, 0, m.set (stA d) (-2147483645)) = (k, 0, m)
      have := set_same (validB_bad (wsp_I32 hI) hvd)
      rw [show m.word (IntKind.i32.wrap (wsp d + -12)) = -2147483645 from hs] at this
      rw [show m.set (stA d) (-2147483645) = m from this]
    rw [hA] at hx
    obtain ⟨⟨k2, e2, m2⟩, hy⟩ : ∃ y, wtsR k m ch at_ = y := ⟨_, rfl⟩
    refine ⟨m, ⟨rfl, rfl⟩, .t (.s (.int .i32 (-2147483645))), fun β => by rw [← hs]; rfl, rfl, fun h => absurd h (by decide), fun _ => ?_⟩
    refine ⟨fun h => absurd h (by decide), fun _ => ⟨fun _ => ?_, fun h => absurd h (by simp)⟩⟩
    refine ⟨(m, k2, e2, m2), ⟨rfl, rfl, ⟨hok.wptr, hbusy, hch, hc⟩, hy⟩, fun c2 h5 => ?_⟩
    refine ⟨fun h6 => ?_, fun h6 => ⟨fun h7 => ?_, fun h7 => absurd h7 (by have h6' : (e2 == 0) = false := h6; simp at h6' ⊢; exact h6')⟩⟩
    · have he2 : e2 = 0 := by simpa using h6
      subst he2
      rcases wts_case (k := k) (m := m) (m1 := m) (ch := ch) (at_ := at_) hbusy rfl with ⟨hv, h8⟩ | ⟨hv, h8⟩
      · rw [hv] at hx
        simp only [Bool.not_true, cond_false] at hx
        rw [hy] at hx
        cases hx
        exact fin_k tt_ok (rs := rs_r30_Out) rfl rfl (hK c2 h5) [0, 4] rfl rfl rfl rfl rfl rfl
      · rw [hy] at h8
        cases h8
    · have he2 : e2 ≠ 0 := by simpa using h6
      rcases wts_case (k := k) (m := m) (m1 := m) (ch := ch) (at_ := at_) hbusy rfl with ⟨hv, h8⟩ | ⟨hv, h8⟩
      · rw [hy] at h8
        exact absurd h8 he2
      · rw [hv] at hx
        simp only [Bool.not_false, cond_false, cond_true] at hx
        rw [hy] at h8
        cases h8
        cases hx
        refine WpE.into (aliasSlot 11 0 0 m.l.length cap rfl rfl) ?_
        refine fin_k tt_ok (rs := rs_r30_Out) rfl rfl (hK cap hc) [0, 5] rfl ?_ rfl rfl rfl rfl
        rw [seg_all]; rfl
  · rw [hna] at hx
    simp only [cond_true] at hx
    rw [cop_ref k m s at_ n ch d hn] at hx
    obtain ⟨cm, hcm⟩ : ∃ cm, cpM m s at_ n = cm := ⟨_, rfl⟩
    obtain ⟨cb, hcb⟩ : ∃ cb, cpOk m s at_ n = cb := ⟨_, rfl⟩
    have hcl : cm.l.length = m.l.length := by rw [← hcm]; exact cpM_len _ _ _ _
    rw [hcm, hcb] at hx
    have hn1 : (s == -2147483647) = false := by unfold naltB at hna; cases h1 : s == -2147483647 <;> simp_all
    have hn2 : (s == -2147483646) = false := by unfold naltB at hna; cases h1 : s == -2147483646 <;> simp_all
    have hn3 : (s == -2147483645) = false := by unfold naltB at hna; cases h1 : s == -2147483645 <;> simp_all
    refine ⟨m, ⟨rfl, rfl⟩, .t (.s (.int .i32 s)), fun β => by rw [← hs]; rfl, rfl, fun h => absurd h (by rw [hn1, hn2]; decide), fun _ => ?_⟩
    refine ⟨fun h => absurd h (by rw [hn2]; decide), fun _ => ⟨fun h => absurd h (by rw [hn1, hn2, hn3]; simp), fun _ => ?_⟩⟩
    refine ⟨fun h => absurd h (by simp), fun _ => ⟨(m, cm, cb), ⟨rfl, rfl, ⟨hsI, ha, hn, hc⟩, hcm, hcb⟩, fun c h4 => ⟨fun h5 => ?_, fun h5 => ?_⟩⟩⟩
    · rw [show (!cb) = true from h5] at hx
      cases hx
      refine WpE.into (aliasSlot 11 0 0 m.l.length cap rfl rfl) ?_
      refine fin_k tt_ok (rs := rs_r30_Out) rfl rfl (hK cap hc) [0, 5] rfl ?_ rfl rfl rfl rfl
      rw [seg_all]; rfl
    rw [show (!cb) = false from h5] at hx
    obtain ⟨⟨k2, e2, m2⟩, hy⟩ : ∃ y, finF k cm ch d = y := ⟨_, rfl⟩
    rw [hy] at hx
    refine ⟨(cm, k2, e2, m2), ⟨rfl, rfl, ⟨hok, hch, hI, h4⟩, hy⟩, fun c2 h6 => ⟨fun h7 => ?_, fun h7 => ?_⟩⟩
    · rw [show (e2 != 0) = true from h7] at hx
      cases hx
      refine WpE.into (aliasSlot 11 0 0 m.l.length cap rfl rfl) ?_
      refine fin_k tt_ok (rs := rs_r30_Out) rfl rfl (hK cap hc) [0, 6] rfl ?_ rfl rfl rfl rfl
      rw [seg_all]; rfl
    · have he2 : e2 = 0 := by simpa using h7
      rw [show (e2 != 0) = false from h7] at hx
      subst he2
      cases hx
      exact fin_k tt_ok (rs := rs_r30_Out) rfl rfl (hK c2 h6) [0, 5] rfl rfl rfl rfl rfl rfl
end Go.Proofs

namespace Go.Proofs
open Go Go.Sx
set_option maxRecDepth 10000
noncomputable abbrev eROut : Ent := .st (conS (P := Try.prog) (f := f_r30_Out) fun cargs σ0 => match cargs, σ0 with
  | [.agg cs, .s (.sl 0 0 l cap), .s (.int .i32 n), .s (.int .i32 ch), .s (.int .i32 at_)], [.view xs] => withCore cs fun k hk => some ⟨.ex (Ram × Core × Int × Ram) fun p => .ask (l = p.1.l.length ∧ xs = bytesI p.1.l ∧ (k.ok ∧ I32 n ∧ I32 ch ∧ I32 at_ ∧ p.1.l.length ≤ cap) ∧ outR k p.1 n ch at_ = p.2) (RES p.1 p.2.2.2 p.2.1 p.2.2.1), fun K h => by
      obtain ⟨⟨m, k', e', m'⟩, ⟨e1, e2, ⟨h1, h2, h3, h4, h5⟩, h6⟩, h⟩ := h
      dsimp only at e1 e2 h1 h2 h3 h4 h5 h6 h
      subst e1; subst e2; subst hk
      exact ROut_c k m cap n ch at_ h1 h2 h3 h4 h5 k' e' m' h6 K h⟩
  | _, _ => none)
theorem sho_ref (k : Core) (m : Ram) (n : Int) : shoR k m n = bif idleB k k.b then (.zero, 8, m) else bif m.err k.wptr != 0 then (.zero, 4, m)
    else bif (outR k (m.set k.wptr k.a) n k.b k.wptr).2.1 != 0 then (.zero, (outR k (m.set k.wptr k.a) n k.b k.wptr).2.1, m) else outR k (m.set k.wptr k.a) n k.b k.wptr := by
  unfold shoR
  cases idleB k k.b
  · simp only [cond_false]
    cases he : (m.err k.wptr != 0)
    · have hb : wBad m k.wptr = false := by
        have := err_zero he
        unfold Ram.err at this
        cases h : wBad m k.wptr
        · rfl
        · rw [h] at this; exact absurd this (by decide)
      have hs := outR_safe k (m.set k.wptr k.a) n k.b k.wptr
      simp only [cond_false]
      cases h2 : ((outR k (m.set k.wptr k.a) n k.b k.wptr).2.1 != 0)
      · rfl
      · obtain ⟨s1, s2⟩ := hs (by simpa using h2)
        rw [s1, s2, set_back hb]
    · rw [(err_word he).2]; rfl
  · rfl
noncomputable abbrev ctRSh : CT := [(f_r30_Internal, .pure spRInternal), (f_r03_SetWord, eRSetWordT), (f_r30_Out, eROut)]
theorem ctRSh_ok : CTok Try.prog ctRSh := ⟨ceRInternal, con_ok cal_r03_SetWord _, con_ok cal_r30_Out _, trivial⟩
theorem Rshort_c (k : Core) (m : Ram) (cap : Nat) (n : Int) (hok : k.ok) (hn : I32 n) (hc : m.l.length ≤ cap) (k' : Core) (e' : Int) (m' : Ram) (hx : shoR k m n = (k', e', m')) :
    Con Try.prog f_r30_short [.agg k.sv, .s (.sl 0 0 m.l.length cap), .s (.int .i32 n)] [.view (bytesI m.l)] (RES m m' k' e') := by
  intro K hK
  rw [sho_ref] at hx
  refine enter fn_r30_short rfl nt_r30_short rfl rfl (fun φ w0 β0 F => ?_)
  refine c_run tt_ok ctRSh_ok k_r30_short [] 60 (by kernel_rfl) ?_
  refine ⟨fun _ => hok.b, fun h => ?_, fun h => ⟨m, ⟨rfl, rfl, hok.wptr, hc⟩, fun c h1 => ⟨fun h2 => ?_, fun h2 => ?_⟩⟩⟩
  · rw [show idleB k k.b = true from h] at hx
    cases hx
    refine WpE.into (aliasSlot 7 0 0 m.l.length cap rfl rfl) ?_
    refine fin_k tt_ok (rs := rs_r30_short) rfl rfl (hK cap hc) [0, 3] rfl ?_ rfl rfl rfl rfl
    rw [seg_all]; rfl
  · rw [show idleB k k.b = false from h, show (m.err k.wptr != 0) = true from h2] at hx
    cases hx
    refine WpE.into (aliasSlot 7 0 0 m.l.length cap rfl rfl) ?_
    refine fin_k tt_ok (rs := rs_r30_short) rfl rfl (hK cap hc) [0, 4] rfl ?_ rfl rfl rfl rfl
    rw [seg_all]; rfl
  · rw [show idleB k k.b = false from h, show (m.err k.wptr != 0) = false from h2] at hx
    obtain ⟨⟨k2, e2, m2⟩, hy⟩ : ∃ y, outR k (m.set k.wptr k.a) n k.b k.wptr = y := ⟨_, rfl⟩
    rw [hy] at hx
    refine ⟨(m.set k.wptr k.a, k2, e2, m2), ⟨rfl, rfl, ⟨hok, hn, hok.b, hok.wptr, by rw [set_len]; exact h1⟩, hy⟩, fun c2 h3 => ⟨fun h4 => ?_, fun h4 => ?_⟩⟩
    · simp only [show (e2 != 0) = true from h4, cond_true, cond_false] at hx
      cases hx
      refine WpE.into (aliasSlot 7 0 0 m.l.length cap rfl rfl) ?_
      refine fin_k tt_ok (rs := rs_r30_short) rfl rfl (hK cap hc) [0, 6] rfl ?_ rfl rfl rfl rfl
      rw [seg_all]; rfl
    · simp only [show (e2 != 0) = false from h4, cond_false] at hx
      have he2 : e2 = 0 := by simpa using h4
      subst he2
      cases hx
      exact fin_k tt_ok (rs := rs_r30_short) rfl rfl (hK c2 h3) [0, 4] rfl rfl rfl rfl rfl rfl
noncomputable abbrev eRshort : Ent := .st (conS (P := Try.prog) (f := f_r30_short) fun cargs σ0 => match cargs, σ0 with
  | [.agg cs, .s (.sl 0 0 l cap), .s (.int .i32 n)], [.view xs] => withCore cs fun k hk => some ⟨.ex (Ram × Core × Int × Ram) fun p => .ask (l = p.1.l.length ∧ xs = bytesI p.1.l ∧ (k.ok ∧ I32 n ∧ p.1.l.length ≤ cap) ∧ shoR k p.1 n = p.2) (RES p.1 p.2.2.2 p.2.1 p.2.2.1), fun K h => by
      obtain ⟨⟨m, k', e', m'⟩, ⟨e1, e2, ⟨h1, h2, h3⟩, h4⟩, h⟩ := h
      dsimp only at e1 e2 h1 h2 h3 h4 h
      subst e1; subst e2; subst hk
      exact Rshort_c k m cap n h1 h2 h3 k' e' m' h4 K h⟩
  | _, _ => none)
theorem RMine_c (fn o : Int) : Con Try.prog f_r30_Mine [.agg [.int .u8 fn, .int .i32 o]] [] (.ret (.t (.s (.bool (mineB fn o)))) []) := by
  intro K hK
  refine enter fn_r30_Mine rfl nt_r30_Mine rfl rfl (fun φ w0 β0 F => ?_)
  refine c_run tt_ok (ct := []) trivial k_r30_Mine [] 60 (by kernel_rfl) ?_
  refine fin_k tt_ok (rs := rs_r30_Mine) rfl rfl hK [] (t1b ?_) rfl rfl rfl rfl rfl
  unfold mineB opB
  cases fn == 15 <;> cases o == 7 <;> cases o == 11 <;> cases o == 14 <;> cases o == 15 <;> cases o == 18 <;> rfl
def spRMine : List TV → Option (Prop × FV)
  | [.agg [.int .u8 fn, .int .i32 o]] => some (True, .t (.s (.bool (mineB fn o))))
  | _ => none
theorem ceRMine : CEok Try.prog f_r30_Mine spRMine := ⟨cal_r30_Mine, fun args p v h hp => by
  unfold spRMine at h; split at h
  · cases h; exact (RMine_c _ _).pure
  · cases h⟩
end Go.Proofs

namespace Go.Proofs
open Go Go.Sx
set_option maxRecDepth 10000
noncomputable abbrev ctREx : CT := [(f_r30_Mine, .pure spRMine), (f_r30_In, eRIn), (f_r30_Out, eROut), (f_r30_short, eRshort), (f_r30_begin, eRbegin), (f_r03_SetWord, eRSetWordT)]
theorem ctREx_ok : CTok Try.prog ctREx := ⟨ceRMine, con_ok cal_r30_In _, con_ok cal_r30_Out _, con_ok cal_r30_short _, con_ok cal_r30_begin _, con_ok cal_r03_SetWord _, trivial⟩
set_option maxHeartbeats 2000000 in
theorem RExec_c (k : Core) (m : Ram) (cap : Nat) (fn o : Int) (hok : k.ok) (hc : m.l.length ≤ cap) (k' : Core) (e' : Int) (m' : Ram) (hx : execR k m fn o = (k', e', m')) :
    Con Try.prog f_r30_Exec [.agg k.sv, .s (.sl 0 0 m.l.length cap), .agg [.int .u8 fn, .int .i32 o]] [.view (bytesI m.l)] (RES m m' k' e') := by
  intro K hK
  unfold execR at hx
  refine enter fn_r30_Exec rfl nt_r30_Exec rfl rfl (fun φ w0 β0 F => ?_)
  refine c_run tt_ok ctREx_ok k_r30_Exec [] 90 (by kernel_rfl) ?_
  have h1 : I32 1 := i32B_ok (by decide)
  have h4 : I32 4 := i32B_ok (by decide)
  refine ⟨fun h => ?_, fun h => ⟨trivial, fun h2 => ?_, fun h2 => ?_⟩⟩
  · rw [show priBad k = true from h] at hx
    cases hx
    refine WpE.into (aliasSlot 7 0 0 m.l.length cap rfl rfl) ?_
    refine fin_k tt_ok (rs := rs_r30_Exec) rfl rfl (hK cap hc) [0, 4] rfl ?_ rfl rfl rfl rfl
    rw [seg_all]; rfl
  · rw [show priBad k = false from h, show (!mineB fn o) = true from h2] at hx
    cases hx
    refine WpE.into (aliasSlot 7 0 0 m.l.length cap rfl rfl) ?_
    refine fin_k tt_ok (rs := rs_r30_Exec) rfl rfl (hK cap hc) [0, 4] rfl ?_ rfl rfl rfl rfl
    rw [seg_all]; rfl
  rw [show priBad k = false from h, show (!mineB fn o) = false from h2] at hx
  simp only [cond_false] at hx
  unfold opR at hx
  refine ⟨fun h3 => ?_, fun h3 => ⟨fun h5 => ?_, fun h5 => ⟨fun h6 => ?_, fun h6 => ⟨fun h7 => ?_, fun h7 => ?_⟩⟩⟩⟩
  · rw [show (o == 7) = true from h3] at hx
    refine ⟨(m, k', e', m'), ⟨rfl, rfl, ⟨hok, hok.a, hok.b, hok.c, hc⟩, hx⟩, fun c h8 => ?_⟩
    exact fin_k tt_ok (rs := rs_r30_Exec) rfl rfl (hK c h8) [0, 4] rfl rfl rfl rfl rfl rfl
  · rw [show (o == 7) = false from h3, show (o == 11) = true from h5] at hx
    refine ⟨(m, k', e', m'), ⟨rfl, rfl, ⟨hok, hok.a, hok.b, hok.c, hc⟩, hx⟩, fun c h8 => ?_⟩
    exact fin_k tt_ok (rs := rs_r30_Exec) rfl rfl (hK c h8) [0, 4] rfl rfl rfl rfl rfl rfl
  · rw [show (o == 7) = false from h3, show (o == 11) = false from h5, show (o == 14) = true from h6] at hx
    refine ⟨(m, k', e', m'), ⟨rfl, rfl, ⟨hok, h1, hc⟩, hx⟩, fun c h8 => ?_⟩
    exact fin_k tt_ok (rs := rs_r30_Exec) rfl rfl (hK c h8) [0, 4] rfl rfl rfl rfl rfl rfl
  · rw [show (o == 7) = false from h3, show (o == 11) = false from h5, show (o == 14) = false from h6, show (o == 15) = true from h7] at hx
    refine ⟨(m, k', e', m'), ⟨rfl, rfl, ⟨hok, h4, hc⟩, hx⟩, fun c h8 => ?_⟩
    exact fin_k tt_ok (rs := rs_r30_Exec) rfl rfl (hK c h8) [0, 4] rfl rfl rfl rfl rfl rfl
  · rw [show (o == 7) = false from h3, show (o == 11) = false from h5, show (o == 14) = false from h6, show (o == 15) = false from h7] at hx
    simp only [cond_false] at hx
    unfold resR at hx
    obtain ⟨⟨d, e⟩, hb⟩ : ∃ b, begR k m k.a = b := ⟨_, rfl⟩
    rw [hb] at hx
    refine ⟨(m, d, e), ⟨rfl, rfl, hok.a, hb⟩, fun h8 => ?_, fun h8 => ⟨m, ⟨rfl, rfl, hok.a, hc⟩, fun c h9 => ?_⟩⟩
    · simp only [show (e != 0) = true from h8, cond_true] at hx
      cases hx
      refine WpE.into (aliasSlot 7 0 0 m.l.length cap rfl rfl) ?_
      refine fin_k tt_ok (rs := rs_r30_Exec) rfl rfl (hK cap hc) [0, 4] rfl ?_ rfl rfl rfl rfl
      rw [seg_all]; rfl
    · simp only [show (e != 0) = false from h8, cond_false] at hx
      cases hx
      exact fin_k tt_ok (rs := rs_r30_Exec) rfl rfl (hK c (by rw [set_len]; exact h9)) [0, 4] rfl rfl rfl rfl rfl rfl
noncomputable abbrev eRExec : Ent := .st (conS (P := Try.prog) (f := f_r30_Exec) fun cargs σ0 => match cargs, σ0 with
  | [.agg cs, .s (.sl 0 0 l cap), .agg [.int .u8 fn, .int .i32 o]], [.view xs] => withCore cs fun k hk => some ⟨.ex (Ram × Core × Int × Ram) fun p => .ask (l = p.1.l.length ∧ xs = bytesI p.1.l ∧ (k.ok ∧ p.1.l.length ≤ cap) ∧ execR k p.1 fn o = p.2) (RES p.1 p.2.2.2 p.2.1 p.2.2.1), fun K h => by
      obtain ⟨⟨m, k', e', m'⟩, ⟨e1, e2, ⟨h1, h2⟩, h3⟩, h⟩ := h
      dsimp only at e1 e2 h1 h2 h3 h
      subst e1; subst e2; subst hk
      exact RExec_c k m cap fn o h1 h2 k' e' m' h3 K h⟩
  | _, _ => none)
end Go.Proofs

namespace Go.Proofs
open Go Go.Sx
set_option maxRecDepth 10000
noncomputable abbrev ctCE : CT := [(f_channel_Exec, eExec), (f_l30_memory, eMemory), (f_l30_awake, .pure spAwake), (f_mem_Mem_Bytes, eBytes), (f_bytes_Equal, eEqual), (f_channel_Mine, .pure spMine), (f_r30_Mine, .pure spRMine), (f_r30_Exec, eRExec)]
theorem ctCE_ok : CTok Try.prog ctCE := ⟨con_ok cal_channel_Exec _, con_ok cal_l30_memory _, ceAwake, con_ok cal_mem_Mem_Bytes _, con_ok cal_bytes_Equal _, ceMine, ceRMine, con_ok cal_r30_Exec _, trivial⟩
set_option maxHeartbeats 2000000 in
theorem ChannelExecs_c (k : Core) (l : List Int) (cap : Nat) (fn o : Int) (hok : k.ok) (hl : l.length ≤ cap) (hm : cap ≤ 140737488355328) (hb : ∀ b ∈ l, 0 ≤ b ∧ b < 256) :
    Con Try.prog f_l30_ChannelExecs [.agg k.sv, .s (.sl 0 0 l.length cap), .agg [.int .u8 fn, .int .i32 o]] [.view (bytesI l)] (.ret (.t (.s (.bool true))) [.view (bytesI l)]) := by
  intro K hK
  refine enter fn_l30_ChannelExecs rfl nt_l30_ChannelExecs rfl rfl (fun φ w0 β0 F => ?_)
  refine c_run tt_ok ctCE_ok k_l30_ChannelExecs [] 60 (by kernel_rfl) ?_
  refine ⟨l, ⟨rfl, rfl, hl, hm⟩, fun h1 => ⟨fun h2 => ⟨trivial, ?_⟩, fun h2 => ?_⟩, fun h1 => ⟨fun h2 => ⟨trivial, ?_⟩, fun h2 => absurd h2 (by simp)⟩⟩
  · exact fin_k tt_ok (rs := rs_l30_ChannelExecs) rfl rfl hK [0] rfl rfl rfl rfl rfl rfl
  · obtain ⟨m, rfl⟩ := mayM_ram h1 hb
    obtain ⟨⟨k', e', m'⟩, hx⟩ : ∃ x, execR k m fn o = x := ⟨_, rfl⟩
    have h0 := m'.lo
    refine ⟨(m, k', e', m'), ⟨rfl, rfl, rfl, rfl, hok, hx⟩, (m, k', e', m'), ⟨rfl, rfl, ⟨hok, hl⟩, hx⟩, fun c hc => ?_⟩
    refine c_ways tt_ok ctCE_ok k_l30_ChannelExecs rfl rfl ?_
    repeat' (first | exact trivial | (refine ⟨m'.l, ⟨rfl, rfl, rfl, rfl, m'.hi, by omega⟩, ?_⟩) | (refine ⟨(m'.l, m'.l), ⟨rfl, rfl, rfl, rfl, rfl, m'.byt, m'.byt⟩, ?_⟩) | (refine And.intro ?_ ?_) | (intro h; exfalso; simp at h; done) | (refine fun _ => ?_))
    all_goals
      refine e_run tt_ok ctCE_ok k_l30_ChannelExecs [] 60 (by kernel_rfl) ?_
      refine fin_k tt_ok (rs := rs_l30_ChannelExecs) rfl rfl hK [0] (t1b ?_) rfl rfl rfl rfl rfl
      simp
  · exact fin_k tt_ok (rs := rs_l30_ChannelExecs) rfl rfl hK [0] rfl rfl rfl rfl rfl rfl
end Go.Proofs

namespace Go.Proofs
open Go Go.Sx
set_option maxRecDepth 10000
noncomputable abbrev ctCM : CT := [(f_channel_In, eIn), (f_channel_Out, eOut), (f_l30_memory, eMemory), (f_l30_awake, .pure spAwake), (f_mem_Mem_Bytes, eBytes), (f_bytes_Equal, eEqual), (f_r30_In, eRIn), (f_r30_Out, eROut)]
theorem ctCM_ok : CTok Try.prog ctCM := ⟨con_ok cal_channel_In _, con_ok cal_channel_Out _, con_ok cal_l30_memory _, ceAwake, con_ok cal_mem_Mem_Bytes _, con_ok cal_bytes_Equal _, con_ok cal_r30_In _, con_ok cal_r30_Out _, trivial⟩
set_option maxHeartbeats 2000000 in
theorem ChannelMoves_c (k : Core) (l : List Int) (cap : Nat) (n ch at_ : Int) (hok : k.ok) (hl : l.length ≤ cap) (hm : cap ≤ 140737488355328) (hb : ∀ b ∈ l, 0 ≤ b ∧ b < 256) (hn : I32 n) (hch : I32 ch) (ha : I32 at_) :
    Con Try.prog f_l30_ChannelMoves [.agg k.sv, .s (.sl 0 0 l.length cap), .s (.int .i32 n), .s (.int .i32 ch), .s (.int .i32 at_)] [.view (bytesI l)] (.ret (.t (.s (.bool true))) [.view (bytesI l)]) := by
  intro K hK
  refine enter fn_l30_ChannelMoves rfl nt_l30_ChannelMoves rfl rfl (fun φ w0 β0 F => ?_)
  refine c_run tt_ok ctCM_ok k_l30_ChannelMoves [] 60 (by kernel_rfl) ?_
  refine ⟨fun h => ⟨trivial, ?_⟩, fun h => ?_⟩
  · exact fin_k tt_ok (rs := rs_l30_ChannelMoves) rfl rfl hK [0] rfl rfl rfl rfl rfl rfl
  show WpC _ _ _ _ _
  refine c_loop (α := Nat) (fun i => i ≤ 2) (fun i => 2 - i)
    (fun i => [(1, .t (.s (.sl 0 0 l.length cap)), none), (2, .t (.s (.int .i32 n)), none), (3, .t (.s (.int .i32 ch)), none), (4, .t (.s (.int .i32 at_)), none), (5, .t (.s (.loc 1 0)), none), (25, .t (.s (.int .i64 (i : Int))), none)])
    (fun _ => [.view (bytesI l), .blk 30 k.sv]) 0 (Nat.zero_le _) ?_ ?_
  · exact into [0, 1] ⟨⟨_, rfl, rfl⟩, ⟨_, rfl, rfl⟩, ⟨_, rfl, rfl⟩, ⟨_, rfl, rfl⟩, ⟨_, rfl, rfl⟩, ⟨_, rfl, rfl⟩, trivial⟩ ⟨_, rfl, rfl⟩ rfl rfl rfl rfl
  · intro i hi
    have hi : i ≤ 2 := hi
    dsimp only
    refine c_run' tt_ok ctCM_ok k_l30_ChannelMoves [] 60 (by kernel_rfl) (by kernel_rfl) ?_
    refine ⟨fun h => ⟨l, ⟨rfl, rfl, hl, hm⟩, fun h1 => ?_, fun h1 => ?_⟩, fun h => ⟨trivial, ?_⟩⟩
    · have hi2 : i < 2 := by have := of_decide_eq_true h; omega
      obtain ⟨m, rfl⟩ := mayM_ram h1 hb
      refine ⟨fun h2 => absurd h2 (by simp), fun _ => ⟨fun h3 => ?_, fun h3 => ?_⟩⟩
      · obtain ⟨⟨k', e', m'⟩, hx⟩ : ∃ x, outR k m n ch at_ = x := ⟨_, rfl⟩
        have h0 := m'.lo
        refine ⟨(m, k', e', m'), ⟨rfl, rfl, rfl, rfl, ⟨hok, hn, hch, ha⟩, hx⟩, (m, k', e', m'), ⟨rfl, rfl, ⟨hok, hn, hch, ha, hl⟩, hx⟩, fun c hc => ?_⟩
        refine ⟨fun _ => ⟨m'.l, ⟨rfl, rfl, rfl, rfl, m'.hi, by omega⟩, fun _ => ⟨(m'.l, m'.l), ⟨rfl, rfl, rfl, rfl, rfl, m'.byt, m'.byt⟩, ?_⟩, fun h => absurd h (by simp)⟩, fun h => absurd h (by simp)⟩
        refine ⟨fun h => absurd h (by simp), fun _ => ?_⟩
        exact e_again (i + 1) (by show i + 1 ≤ 2; omega) (by show 2 - (i + 1) < 2 - i; omega) (into [0, 1] ⟨⟨_, rfl, rfl⟩, ⟨_, rfl, rfl⟩, ⟨_, rfl, rfl⟩, ⟨_, rfl, rfl⟩, ⟨_, rfl, rfl⟩, ⟨_, rfl, fvi (wrapSucc (by omega))⟩, trivial⟩ ⟨_, rfl, rfl⟩ rfl rfl rfl rfl)
      · obtain ⟨⟨k', e', m'⟩, hx⟩ : ∃ x, inR k m n ch at_ = x := ⟨_, rfl⟩
        have h0 := m'.lo
        refine ⟨(m, k', e', m'), ⟨rfl, rfl, rfl, rfl, ⟨hok, hn, hch, ha⟩, hx⟩, (m, k', e', m'), ⟨rfl, rfl, ⟨hok, hn, hch, ha, hl⟩, hx⟩, fun c hc => ?_⟩
        refine ⟨fun _ => ⟨m'.l, ⟨rfl, rfl, rfl, rfl, m'.hi, by omega⟩, fun _ => ⟨(m'.l, m'.l), ⟨rfl, rfl, rfl, rfl, rfl, m'.byt, m'.byt⟩, ?_⟩, fun h => absurd h (by simp)⟩, fun h => absurd h (by simp)⟩
        refine ⟨fun h => absurd h (by simp), fun _ => ?_⟩
        exact e_again (i + 1) (by show i + 1 ≤ 2; omega) (by show 2 - (i + 1) < 2 - i; omega) (into [0, 1] ⟨⟨_, rfl, rfl⟩, ⟨_, rfl, rfl⟩, ⟨_, rfl, rfl⟩, ⟨_, rfl, rfl⟩, ⟨_, rfl, rfl⟩, ⟨_, rfl, fvi (wrapSucc (by omega))⟩, trivial⟩ ⟨_, rfl, rfl⟩ rfl rfl rfl rfl)
    · refine ⟨fun _ => ⟨trivial, ?_⟩, fun h => absurd h (by simp)⟩
      exact fin_k tt_ok (rs := rs_l30_ChannelMoves) rfl rfl hK [0] rfl rfl rfl rfl rfl rfl
    · exact fin_k tt_ok (rs := rs_l30_ChannelMoves) rfl rfl hK [0] rfl rfl rfl rfl rfl rfl
end Go.Proofs
