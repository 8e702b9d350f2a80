/- The reference's scheduler: Valid, Nobody, Set, Wait (chapter 31's texts, for this seat). -/
import Derived.Test.YtckbmpoomamenaaWalkA
import Derived.Test.YtckbmpoomamenaaWalkB
import Derived.Test.YtckbmpoomamenaaWalkC
import Derived.Test.YtckbmpoomamenaaWalkD

namespace Go.Proofs
open Go Go.Sx
set_option maxRecDepth 10000
/-- From, of a slice that the caller owns. -/
theorem From_o (l : List Int) (cap : Nat) : Con Try.prog f_mem_From [.s (.sl 0 0 l.length cap)] [.own 5 1 cap (bytesI l)] (.br (mayM l.length)
    (.ret (.tup [.s (.loc 1 0), .s (.int .i64 0)]) [.own 5 1 cap (bytesI l), .blk 52 [.sl 2 0 l.length l.length], mOwn l])
    (.ret (.tup [.s (.raw (.pointer none)), .s (.int .i64 2)]) [.own 5 1 cap (bytesI l)])) := by
  intro K ⟨hK1, hK2⟩
  refine enter fn_mem_From rfl nt_mem_From rfl rfl (fun φ w0 β0 F => ?_)
  refine c_run tt_ok ctM_ok k_mem_From [] 60 (by kernel_rfl) ?_
  refine ⟨fun h => ?_, fun h => ?_⟩
  · have hb : mayM l.length = false := by simpa using h
    exact fin_k tt_ok (rs := rs_mem_From) rfl rfl (hK2 hb) [0] rfl rfl rfl rfl rfl rfl
  · have hb : mayM l.length = true := by simpa using h
    obtain ⟨k, e, h1, h2⟩ := mayM_nat hb
    refine ⟨l.length, ⟨rfl, rfl, by simp only [maxLen]; omega, by omega⟩, ?_⟩
    refine ⟨l.length, ⟨by simp, by simp, by simp, by rw [seg_bytesI]; exact bytesI_one _⟩, ?_⟩
    refine fin_k tt_ok (rs := rs_mem_From) rfl rfl (hK1 hb) [0, 2, 1] rfl ?_ rfl rfl rfl rfl
    show pickL [Ch.own 5 1 cap (bytesI l), Ch.own 5 1 l.length (setV (List.replicate l.length (Value.int .u8 0)) 0 (seg (bytesI l) 0 l.length)), Ch.blk 52 [SV.sl 1 0 l.length l.length]] [0, 2, 1] = _
    rw [copy_all l _ (by simp)]; rfl
def sameB (a b : List Int) : Bool := (a.map fun n => UInt8.ofNat n.toNat) == (b.map fun n => UInt8.ofNat n.toNat)
end Go.Proofs

namespace Go.Proofs
open Go Go.Sx
set_option maxRecDepth 10000
noncomputable abbrev eFromO : Ent := .st (conS (P := Try.prog) (f := f_mem_From) fun cargs σ0 => match cargs, σ0 with
  | [.s (.sl 0 0 n cap)], [.own 5 1 c xs] => some ⟨.ex (List Int) fun l => .ask (xs = bytesI l ∧ n = l.length ∧ c = cap)
      (.br (mayM l.length) (.ret (.tup [.s (.loc 1 0), .s (.int .i64 0)]) [.own 5 1 cap (bytesI l), .blk 52 [.sl 2 0 l.length l.length], mOwn l])
        (.ret (.tup [.s (.raw (.pointer none)), .s (.int .i64 2)]) [.own 5 1 cap (bytesI l)])), fun K h => by
      obtain ⟨l, ⟨e1, e2, e3⟩, h⟩ := h
      subst e1; subst e2; subst e3
      exact From_o l _ K h⟩
  | _, _ => none)
noncomputable abbrev eBytes : Ent := .st (conS (P := Try.prog) (f := f_mem_Mem_Bytes) fun cargs σ0 => match cargs, σ0 with
  | [.s (.loc 0 0)], [.blk 52 [.sl 1 0 n n'], .own 5 1 c xs] => some ⟨.ex (List Int) fun l => .ask (xs = bytesI l ∧ n = l.length ∧ n' = l.length ∧ c = l.length ∧ l.length ≤ 65536 ∧ 1 ≤ l.length)
      (.ret (.t (.s (.sl 2 0 l.length l.length))) [mBox l.length, mOwn l, mOwn l]), fun K h => by
      obtain ⟨l, ⟨e1, e2, e3, e4, h1, h0⟩, h⟩ := h
      subst e1; subst e2; subst e3; subst e4
      exact Bytes_c l h1 h0 K h⟩
  | _, _ => none)
noncomputable abbrev eRWord : Ent := .st (conS (P := Try.prog) (f := f_r03_Word) fun cargs σ0 => match cargs, σ0 with
  | [.s (.sl 0 0 n cap), .s (.int .i32 a)], [.view xs] => some ⟨.ex (List Int) fun l => .ask (xs = bytesI l ∧ n = l.length ∧ l.length ≤ 65536 ∧ l.length % 4 = 0 ∧ I32 a ∧ ∀ b ∈ l, 0 ≤ b ∧ b < 256)
      (.br (liesB l.length a 1) (.ret (.tup [.s (.int .i32 (getW l (ofAt (wAt a)).toNat)), .s (.int .i64 0)]) [.view (bytesI l)])
        (.ret (.tup [.s (.int .i32 0), .s (.int .i64 4)]) [.view (bytesI l)])), fun K h => by
      obtain ⟨l, ⟨e1, e2, h1, h2, h3, h4⟩, h⟩ := h
      subst e1; subst e2
      exact RWord_c l cap a h1 h2 h3 h4 K h⟩
  | _, _ => none)
def spMay : List TV → Option (Prop × FV)
  | [.s (.int .i64 n)] => some (True, .t (.s (.bool (mayM n))))
  | _ => none
theorem mayM_mod {n : Nat} (h : mayM n = true) : n % 4 = 0 := by
  unfold mayM at h
  by_cases h1 : (n : Int) ≥ 1024 <;> by_cases h2 : (n : Int) ≤ 65536 <;> simp [h1, h2] at h
  rw [(tmod4 _).1 (by omega)] at h; omega
theorem span_word {n : Nat} {a : Int} (_ : I32 a) (h : n % 4 = 0) : spanBad n (wAt a) 4 = !liesB n a 1 := by
  skip
  unfold liesB spanBad
  by_cases h1 : ofAt a < n
  · have h2 : ¬ ofAt (wAt a) ≥ n := by unfold ofAt wAt at *; omega
    have h3 : ¬ (4 > n - ofAt (wAt a)) := by unfold ofAt wAt at *; omega
    have h4 : (1 : Int) ≤ n - ofAt a := by omega
    simp only [decide_eq_false h2, decide_eq_false h3, decide_eq_true h1, decide_eq_true h4]; rfl
  · have h2 : ofAt (wAt a) ≥ n := by unfold ofAt wAt at *; omega
    simp only [decide_eq_true h2, decide_eq_false h1]; rfl
theorem u8_fit {x : Int} (h : (Lit.int .u8 x).wf = true) : 0 ≤ x ∧ x < 256 := by
  simp [Lit.wf, IntKind.min, IntKind.max, IntKind.signed, IntKind.bits] at h
  omega
end Go.Proofs

namespace Go.Proofs
open Go Go.Sx
set_option maxRecDepth 10000
/-- What a function of the reference returns: a core, a memory, an error. -/
abbrev RES (m m' : Ram) (k' : Core) (e' : Int) : Out := .all Nat (fun c => m'.l.length ≤ c) fun c => .ret (.tup [.agg k'.sv, .s (.sl 1 0 m'.l.length c), .s (.int .i64 e')]) [.view (bytesI m.l), .view (bytesI m'.l)]
noncomputable abbrev ctRSt : CT := [(f_r03_SetWord, eRSetWordT)]
theorem ctRSt_ok : CTok Try.prog ctRSt := ⟨con_ok cal_r03_SetWord _, trivial⟩
theorem seg_all (m : Ram) : seg (bytesI m.l) 0 m.l.length = bytesI m.l := by rw [seg_bytesI, List.drop_zero, List.take_length]
noncomputable abbrev ctRVa : CT := [(f_r03_Index, .pure spIndex), (f_r03_Lies, .pure spLies)]
theorem ctRVa_ok : CTok Try.prog ctRVa := ⟨ceIndex, ceLies, trivial⟩
theorem RValid_c (m : Ram) (cap : Nat) (w : Int) (hw : I32 w) : Con Try.prog f_r29_Valid [.s (.sl 0 0 m.l.length cap), .s (.int .i32 w)] [.view (bytesI m.l)] (.ret (.t (.s (.bool (validB m w)))) [.view (bytesI m.l)]) := by
  intro K hK
  have h0 := m.lo
  have h1 := m.hi
  refine enter fn_r29_Valid rfl nt_r29_Valid rfl rfl (fun φ w0 β0 F => ?_)
  refine c_run tt_ok ctRVa_ok k_r29_Valid [] 60 (by kernel_rfl) ?_
  refine ⟨fun _ => hw, fun _ => ⟨by omega, by omega, hw⟩, ?_⟩
  refine fin_k tt_ok (rs := rs_r29_Valid) rfl rfl hK [0] (t1b ?_) rfl rfl rfl rfl rfl
  have e : (w.tmod 4 == 0) = (w % 4 == 0) := by
    unfold I32 at hw
    have : w.tmod 4 = w % 4 ∨ (w < 0 ∧ w.tmod 4 = -((-w) % 4)) := by
      rcases Int.lt_or_le w 0 with h | h
      · exact .inr ⟨h, (tmod4 w).2 h⟩
      · exact .inl ((tmod4 w).1 h)
    rw [Bool.eq_iff_iff]
    simp only [beq_iff_eq]
    omega
  rw [e]
  unfold validB liesB
  cases hA : (bif w % 4 == 0 then decide (ofAt w ≥ 20) else false)
  · rfl
  · have : ofAt w ≥ 20 := by
      cases h4 : (w % 4 == 0) <;> simp [h4] at hA
      exact hA
    simp only [cond_true]
    rw [Bool.eq_iff_iff]
    simp
    omega
noncomputable abbrev eRValid : Ent := .st (conS (P := Try.prog) (f := f_r29_Valid) fun cargs σ0 => match cargs, σ0 with
  | [.s (.sl 0 0 n cap), .s (.int .i32 w)], [.view xs] => some ⟨.ex Ram fun m => .ask (n = m.l.length ∧ xs = bytesI m.l ∧ I32 w) (.ret (.t (.s (.bool (validB m w)))) [.view (bytesI m.l)]), fun K h => by
      obtain ⟨m, ⟨e1, e2, h1⟩, h⟩ := h
      subst e1; subst e2
      exact RValid_c m cap w h1 K h⟩
  | _, _ => none)
theorem RNobody_c (k : Core) : Con Try.prog f_r29_Nobody [.agg k.sv] [] (.ret (.t (.agg k.nobody.sv)) []) := by
  intro K hK
  refine enter fn_r29_Nobody rfl nt_r29_Nobody rfl rfl (fun φ w0 β0 F => ?_)
  refine c_run tt_ok (ct := []) trivial k_r29_Nobody [] 60 (by kernel_rfl) ?_
  exact fin_k tt_ok (rs := rs_r29_Nobody) rfl rfl hK [] rfl rfl rfl rfl rfl rfl
def spRNobody : List TV → Option (Prop × FV)
  | [.agg cs] => withCore cs fun k _ => some (True, .t (.agg k.nobody.sv))
  | _ => none
theorem ceRNobody : CEok Try.prog f_r29_Nobody spRNobody := ⟨cal_r29_Nobody, fun args p v h hp => by
  unfold spRNobody at h; split at h
  · obtain ⟨k, hk, h⟩ := withCore_some h
    cases h; subst hk; exact (RNobody_c _).pure
  · cases h⟩
theorem RSet_c (m : Ram) (cap : Nat) (w k v : Int) (hc : m.l.length ≤ cap) : Con Try.prog f_r29_Set [.s (.sl 0 0 m.l.length cap), .s (.int .i32 w), .s (.int .i32 k), .s (.int .i32 v)] [.view (bytesI m.l)]
    (.all Nat (fun c => m.l.length ≤ c) fun c => .ret (.t (.s (.sl 1 0 (m.set (IntKind.i32.wrap (w + IntKind.i32.wrap (4 * k))) v).l.length c))) [.view (bytesI m.l), .view (bytesI (m.set (IntKind.i32.wrap (w + IntKind.i32.wrap (4 * k))) v).l)]) := by
  intro K hK
  refine enter fn_r29_Set rfl nt_r29_Set rfl rfl (fun φ w0 β0 F => ?_)
  refine c_run tt_ok ctRSt_ok k_r29_Set [] 60 (by kernel_rfl) ?_
  refine ⟨m, ⟨rfl, rfl, I32_wrap _, hc⟩, fun c h1 => ?_⟩
  exact fin_k tt_ok (rs := rs_r29_Set) rfl rfl (hK c h1) [0, 1] rfl rfl rfl rfl rfl rfl
noncomputable abbrev eRSet : Ent := .st (conS (P := Try.prog) (f := f_r29_Set) fun cargs σ0 => match cargs, σ0 with
  | [.s (.sl 0 0 n cap), .s (.int .i32 w), .s (.int .i32 k), .s (.int .i32 v)], [.view xs] => some ⟨.ex Ram fun m => .ask (n = m.l.length ∧ xs = bytesI m.l ∧ m.l.length ≤ cap)
      (.all Nat (fun c => m.l.length ≤ c) fun c => .ret (.t (.s (.sl 1 0 (m.set (IntKind.i32.wrap (w + IntKind.i32.wrap (4 * k))) v).l.length c))) [.view (bytesI m.l), .view (bytesI (m.set (IntKind.i32.wrap (w + IntKind.i32.wrap (4 * k))) v).l)]), fun K h => by
      obtain ⟨m, ⟨e1, e2, h1⟩, h⟩ := h
      subst e1; subst e2
      exact RSet_c m cap w k v h1 K h⟩
  | _, _ => none)
def waR (k : Core) (m : Ram) : Core × Int × Ram := bif !k.busy then (.zero, 8, m) else bif !validB m k.wptr then (.zero, 4, m) else (k.nobody, 0, m.set (IntKind.i32.wrap (k.wptr + -4)) k.iptr)
noncomputable abbrev ctRWt : CT := [(f_r29_Valid, eRValid), (f_r29_Nobody, .pure spRNobody), (f_r29_Set, eRSet)]
theorem ctRWt_ok : CTok Try.prog ctRWt := ⟨con_ok cal_r29_Valid _, ceRNobody, con_ok cal_r29_Set _, trivial⟩
set_option maxHeartbeats 4000000 in
theorem RWait_c (k : Core) (m : Ram) (cap : Nat) (k' : Core) (e' : Int) (m' : Ram) (hw : I32 k.wptr) (hc : m.l.length ≤ cap) (hx : waR k m = (k', e', m')) :
    Con Try.prog f_r29_Wait [.agg k.sv, .s (.sl 0 0 m.l.length cap)] [.view (bytesI m.l)] (RES m m' k' e') := by
  intro K hK
  refine enter fn_r29_Wait rfl nt_r29_Wait rfl rfl (fun φ w0 β0 F => ?_)
  refine c_run tt_ok ctRWt_ok k_r29_Wait [] 60 (by kernel_rfl) ?_
  refine ⟨fun h => ?_, fun h => ⟨m, ⟨rfl, rfl, hw⟩, fun h2 => ?_, fun h2 => ?_⟩⟩
  · simp only [waR, h, cond_true] at hx
    cases hx
    refine WpE.into (aliasSlot 5 0 0 m.l.length cap rfl rfl) ?_
    refine fin_k tt_ok (rs := rs_r29_Wait) rfl rfl (hK cap hc) [0, 3] rfl ?_ rfl rfl rfl rfl
    rw [seg_all]; rfl
  · simp only [waR, h, h2, cond_true, cond_false] at hx
    cases hx
    refine WpE.into (aliasSlot 5 0 0 m.l.length cap rfl rfl) ?_
    refine fin_k tt_ok (rs := rs_r29_Wait) rfl rfl (hK cap hc) [0, 3] rfl ?_ rfl rfl rfl rfl
    rw [seg_all]; rfl
  · simp only [waR, h, h2, cond_false] at hx
    cases hx
    refine c_ways tt_ok ctRWt_ok k_r29_Wait rfl rfl ?_
    repeat' (first | exact trivial | (refine ⟨m, ⟨rfl, rfl, hc⟩, fun c h1 => ?_⟩) | (refine And.intro ?_ ?_))
    all_goals
      refine e_run tt_ok ctRWt_ok k_r29_Wait [] 60 (by kernel_rfl) ?_
      refine fin_k tt_ok (rs := rs_r29_Wait) rfl rfl (hK c (by rw [set_len]; assumption)) [0, 3] rfl rfl rfl rfl rfl rfl
noncomputable abbrev eRWait : Ent := .st (conS (P := Try.prog) (f := f_r29_Wait) fun cargs σ0 => match cargs, σ0 with
  | [.agg cs, .s (.sl 0 0 n cap)], [.view xs] => withCore cs fun k hk => some ⟨.ex (Ram × Core × Int × Ram) fun p => .ask (n = p.1.l.length ∧ xs = bytesI p.1.l ∧ I32 k.wptr ∧ p.1.l.length ≤ cap ∧ waR k p.1 = p.2) (RES p.1 p.2.2.2 p.2.1 p.2.2.1), fun K h => by
      obtain ⟨⟨m, k', e', m'⟩, ⟨e1, e2, h1, h2, h3⟩, h⟩ := h
      dsimp only at e1 e2 h1 h2 h3 h
      subst e1; subst e2; subst hk
      exact RWait_c k m cap k' e' m' h1 h2 h3 K h⟩
  | _, _ => none)
end Go.Proofs

namespace Go.Proofs
open Go Go.Sx
set_option maxRecDepth 10000
def spRInternal : List TV → Option (Prop × FV)
  | [.s (.int .i32 ch)] => some (I32 ch, .t (.s (.bool (intB ch))))
  | _ => none
theorem err_word {m : Ram} {a : Int} (h : (m.err a != 0) = true) : m.word a = 0 ∧ m.err a = 4 := by
  unfold Ram.err at h ⊢
  unfold Ram.word
  cases hb : wBad m a
  · rw [hb] at h; simp at h
  · exact ⟨rfl, rfl⟩
theorem err_zero {m : Ram} {a : Int} (h : (m.err a != 0) = false) : m.err a = 0 := by simpa using h
theorem RSpace_c (d : Int) (h : I32 d) : Con Try.prog f_r29_Space [.s (.int .i32 d)] [] (.ret (.tup [.s (.int .i32 (wsp d)), .s (.int .i64 (d % 2))]) []) := by
  intro K hK
  refine enter fn_r29_Space rfl nt_r29_Space rfl rfl (fun φ w0 β0 F => ?_)
  refine c_run tt_ok (ct := []) trivial k_r29_Space [] 60 (by kernel_rfl) ?_
  refine fin_k tt_ok (rs := rs_r29_Space) rfl rfl hK [] (t2 ?_ ?_) rfl rfl rfl rfl rfl
  · rw [andNot3_i32 h]; rfl
  · rw [and1_i32, wrap64 (by omega) (by omega)]
def spRSpace : List TV → Option (Prop × FV)
  | [.s (.int .i32 d)] => some (I32 d, .tup [.s (.int .i32 (wsp d)), .s (.int .i64 (d % 2))])
  | _ => none
theorem ceRSpace : CEok Try.prog f_r29_Space spRSpace := ⟨cal_r29_Space, fun args p v h hp => by
  unfold spRSpace at h; split at h
  · cases h; exact (RSpace_c _ hp).pure
  · cases h⟩
noncomputable abbrev ctRW9 : CT := [(f_r03_Word, eRWordT)]
theorem ctRW9_ok : CTok Try.prog ctRW9 := ⟨con_ok cal_r03_Word _, trivial⟩
theorem RWord9_c (m : Ram) (cap : Nat) (w k : Int) : Con Try.prog f_r29_Word [.s (.sl 0 0 m.l.length cap), .s (.int .i32 w), .s (.int .i32 k)] [.view (bytesI m.l)]
    (.ret (.t (.s (.int .i32 (m.word (IntKind.i32.wrap (w + IntKind.i32.wrap (4 * k))))))) [.view (bytesI m.l)]) := by
  intro K hK
  refine enter fn_r29_Word rfl nt_r29_Word rfl rfl (fun φ w0 β0 F => ?_)
  refine c_run tt_ok ctRW9_ok k_r29_Word [] 60 (by kernel_rfl) ?_
  refine ⟨m, ⟨rfl, rfl, I32_wrap _⟩, ?_⟩
  exact fin_k tt_ok (rs := rs_r29_Word) rfl rfl hK [0] rfl rfl rfl rfl rfl rfl
noncomputable abbrev eRWord9 : Ent := .st (conS (P := Try.prog) (f := f_r29_Word) fun cargs σ0 => match cargs, σ0 with
  | [.s (.sl 0 0 n cap), .s (.int .i32 w), .s (.int .i32 k)], [.view xs] => some ⟨.ex Ram fun m => .ask (n = m.l.length ∧ xs = bytesI m.l)
      (.ret (.t (.s (.int .i32 (m.word (IntKind.i32.wrap (w + IntKind.i32.wrap (4 * k))))))) [.view (bytesI m.l)]), fun K h => by
      obtain ⟨m, ⟨e1, e2⟩, h⟩ := h
      subst e1; subst e2
      exact RWord9_c m cap w k K h⟩
  | _, _ => none)
noncomputable abbrev ctRAp : CT := [(f_r29_Space, .pure spRSpace), (f_r29_Valid, eRValid), (f_r29_Set, eRSet)]
theorem ctRAp_ok : CTok Try.prog ctRAp := ⟨ceRSpace, con_ok cal_r29_Valid _, con_ok cal_r29_Set _, trivial⟩
theorem RAppend_c (k : Core) (m : Ram) (cap : Nat) (d : Int) (k' : Core) (e' : Int) (m' : Ram) (hok : k.ok) (hd : I32 d) (hc : m.l.length ≤ cap) (hx : appR k m d = (k', e', m')) :
    Con Try.prog f_r29_Append [.agg k.sv, .s (.sl 0 0 m.l.length cap), .s (.int .i32 d)] [.view (bytesI m.l)] (RES m m' k' e') := by
  intro K hK
  refine enter fn_r29_Append rfl nt_r29_Append rfl rfl (fun φ w0 β0 F => ?_)
  refine c_run tt_ok ctRAp_ok k_r29_Append [100010] 60 (by kernel_rfl) ?_
  have h2 : d % 2 = 0 ∨ d % 2 = 1 := by omega
  rcases h2 with h2 | h2
  · have ho : odd d = false := by unfold odd; rw [h2]; rfl
    unfold appR at hx
    rw [ho] at hx
    refine ⟨hd, .t (.s (.int .i64 0)), fun β => by rw [h2], rfl, m, ⟨rfl, rfl, wsp_I32 hd⟩, fun h => ?_, fun h => ⟨fun h3 => ?_, fun h3 => ⟨m, ⟨rfl, rfl, hok.b0⟩, fun h4 => ?_, fun h4 => ?_⟩⟩⟩
    · rw [show (!validB m (wsp d)) = true from h] at hx
      cases hx
      refine WpE.into (aliasSlot 7 0 0 m.l.length cap rfl rfl) ?_
      refine fin_k tt_ok (rs := rs_r29_Append) rfl rfl (hK cap hc) [0, 3] rfl ?_ rfl rfl rfl rfl
      rw [seg_all]; rfl
    · rw [show (!validB m (wsp d)) = false from h, show (k.fr false == NP) = true from h3] at hx
      cases hx
      refine WpE.into (aliasSlot 7 0 0 m.l.length cap rfl rfl) ?_
      refine fin_k tt_ok (rs := rs_r29_Append) rfl rfl (hK cap hc) [0, 3] rfl ?_ rfl rfl rfl rfl
      rw [seg_all]; rfl
    · rw [show (!validB m (wsp d)) = false from h, show (k.fr false == NP) = false from h3, show validB m (k.bk false) = true from h4] at hx
      cases hx
      refine ⟨m, ⟨rfl, rfl, hc⟩, fun c h5 => ?_⟩
      refine fin_k tt_ok (rs := rs_r29_Append) rfl rfl (hK c (by rw [set_len]; exact h5)) [0, 3] rfl ?_ rfl rfl rfl rfl
      rfl
    · rw [show (!validB m (wsp d)) = false from h, show (k.fr false == NP) = false from h3, show validB m (k.bk false) = false from h4] at hx
      cases hx
      refine WpE.into (aliasSlot 7 0 0 m.l.length cap rfl rfl) ?_
      refine fin_k tt_ok (rs := rs_r29_Append) rfl rfl (hK cap hc) [0, 3] rfl ?_ rfl rfl rfl rfl
      rw [seg_all]; rfl
  · have ho : odd d = true := by unfold odd; rw [h2]; rfl
    unfold appR at hx
    rw [ho] at hx
    refine ⟨hd, .t (.s (.int .i64 1)), fun β => by rw [h2], rfl, m, ⟨rfl, rfl, wsp_I32 hd⟩, fun h => ?_, fun h => ⟨fun h3 => ?_, fun h3 => ⟨m, ⟨rfl, rfl, hok.b1⟩, fun h4 => ?_, fun h4 => ?_⟩⟩⟩
    · rw [show (!validB m (wsp d)) = true from h] at hx
      cases hx
      refine WpE.into (aliasSlot 7 0 0 m.l.length cap rfl rfl) ?_
      refine fin_k tt_ok (rs := rs_r29_Append) rfl rfl (hK cap hc) [0, 3] rfl ?_ rfl rfl rfl rfl
      rw [seg_all]; rfl
    · rw [show (!validB m (wsp d)) = false from h, show (k.fr true == NP) = true from h3] at hx
      cases hx
      refine WpE.into (aliasSlot 7 0 0 m.l.length cap rfl rfl) ?_
      refine fin_k tt_ok (rs := rs_r29_Append) rfl rfl (hK cap hc) [0, 3] rfl ?_ rfl rfl rfl rfl
      rw [seg_all]; rfl
    · rw [show (!validB m (wsp d)) = false from h, show (k.fr true == NP) = false from h3, show validB m (k.bk true) = true from h4] at hx
      cases hx
      refine ⟨m, ⟨rfl, rfl, hc⟩, fun c h5 => ?_⟩
      refine fin_k tt_ok (rs := rs_r29_Append) rfl rfl (hK c (by rw [set_len]; exact h5)) [0, 3] rfl ?_ rfl rfl rfl rfl
      rfl
    · rw [show (!validB m (wsp d)) = false from h, show (k.fr true == NP) = false from h3, show validB m (k.bk true) = false from h4] at hx
      cases hx
      refine WpE.into (aliasSlot 7 0 0 m.l.length cap rfl rfl) ?_
      refine fin_k tt_ok (rs := rs_r29_Append) rfl rfl (hK cap hc) [0, 3] rfl ?_ rfl rfl rfl rfl
      rw [seg_all]; rfl
noncomputable abbrev eRAppend : Ent := .st (conS (P := Try.prog) (f := f_r29_Append) fun cargs σ0 => match cargs, σ0 with
  | [.agg cs, .s (.sl 0 0 n cap), .s (.int .i32 d)], [.view xs] => withCore cs fun k hk => some ⟨.ex (Ram × Core × Int × Ram) fun p => .ask (n = p.1.l.length ∧ xs = bytesI p.1.l ∧ (k.ok ∧ I32 d ∧ p.1.l.length ≤ cap) ∧ appR k p.1 d = p.2) (RES p.1 p.2.2.2 p.2.1 p.2.2.1), fun K h => by
      obtain ⟨⟨m, k', e', m'⟩, ⟨e1, e2, ⟨h1, h2, h3⟩, h4⟩, h⟩ := h
      dsimp only at e1 e2 h1 h2 h3 h4 h
      subst e1; subst e2; subst hk
      exact RAppend_c k m cap d k' e' m' h1 h2 h3 h4 K h⟩
  | _, _ => none)
end Go.Proofs

namespace Go.Proofs
open Go Go.Sx
set_option maxRecDepth 10000
noncomputable abbrev ctRTk : CT := [(f_r29_Valid, eRValid), (f_r29_Word, eRWord9)]
theorem ctRTk_ok : CTok Try.prog ctRTk := ⟨con_ok cal_r29_Valid _, con_ok cal_r29_Word _, trivial⟩
theorem RTake_c (k : Core) (m : Ram) (cap : Nat) (p : Int) (k' : Core) (w' e' : Int) (hok : k.ok) (hx : takR k m p = (k', w', e')) : Con Try.prog f_r29_Take [.agg k.sv, .s (.sl 0 0 m.l.length cap), .s (.int .i64 p)] [.view (bytesI m.l)]
    (.ret (.tup [.agg k'.sv, .s (.int .i32 w'), .s (.int .i64 e')]) [.view (bytesI m.l)]) := by
  intro K hK
  have hc : p = 0 ∨ p = 1 ∨ (p ≠ 0 ∧ p ≠ 1) := by omega
  unfold takR at hx
  rcases hc with rfl | rfl | ⟨hp0, hp1⟩
  · rw [show k.fr ((0 : Int) == 1) = k.f0 from rfl, show k.bk ((0 : Int) == 1) = k.b0 from rfl, show ((0 : Int) == 1) = false from rfl, show (!((0 : Int) == 0 || false)) = false from rfl] at hx
    refine enter fn_r29_Take rfl nt_r29_Take rfl rfl (fun φ w0 β0 F => ?_)
    refine c_run tt_ok ctRTk_ok k_r29_Take [] 60 (by kernel_rfl) ?_
    refine ⟨fun h => absurd h (by decide), fun _ => ⟨fun h1 => ?_, fun h1 => ?_⟩⟩
    · rw [show (k.f0 == NP) = true from h1] at hx
      cases hx
      exact fin_k tt_ok (rs := rs_r29_Take) rfl rfl hK [0] rfl rfl rfl rfl rfl rfl
    · rw [show (k.f0 == NP) = false from h1] at hx
      refine ⟨m, ⟨rfl, rfl, hok.f0⟩, fun h2 => ?_, fun h2 => ⟨fun h3 => ?_, fun h3 => ?_⟩⟩
      · rw [show (!validB m k.f0) = true from h2] at hx
        cases hx
        exact fin_k tt_ok (rs := rs_r29_Take) rfl rfl hK [0] rfl rfl rfl rfl rfl rfl
      · rw [show (!validB m k.f0) = false from h2, show (k.f0 == k.b0) = true from h3] at hx
        cases hx
        exact fin_k tt_ok (rs := rs_r29_Take) rfl rfl hK [0] rfl rfl rfl rfl rfl rfl
      · rw [show (!validB m k.f0) = false from h2, show (k.f0 == k.b0) = false from h3] at hx
        cases hx
        refine ⟨m, ⟨rfl, rfl⟩, ?_⟩
        exact fin_k tt_ok (rs := rs_r29_Take) rfl rfl hK [0] rfl rfl rfl rfl rfl rfl
  · rw [show k.fr ((1 : Int) == 1) = k.f1 from rfl, show k.bk ((1 : Int) == 1) = k.b1 from rfl, show ((1 : Int) == 1) = true from rfl, show (!((1 : Int) == 0 || true)) = false from rfl] at hx
    refine enter fn_r29_Take rfl nt_r29_Take rfl rfl (fun φ w0 β0 F => ?_)
    refine c_run tt_ok ctRTk_ok k_r29_Take [] 60 (by kernel_rfl) ?_
    refine ⟨fun h => absurd h (by decide), fun _ => ⟨fun h1 => ?_, fun h1 => ?_⟩⟩
    · rw [show (k.f1 == NP) = true from h1] at hx
      cases hx
      exact fin_k tt_ok (rs := rs_r29_Take) rfl rfl hK [0] rfl rfl rfl rfl rfl rfl
    · rw [show (k.f1 == NP) = false from h1] at hx
      refine ⟨m, ⟨rfl, rfl, hok.f1⟩, fun h2 => ?_, fun h2 => ⟨fun h3 => ?_, fun h3 => ?_⟩⟩
      · rw [show (!validB m k.f1) = true from h2] at hx
        cases hx
        exact fin_k tt_ok (rs := rs_r29_Take) rfl rfl hK [0] rfl rfl rfl rfl rfl rfl
      · rw [show (!validB m k.f1) = false from h2, show (k.f1 == k.b1) = true from h3] at hx
        cases hx
        exact fin_k tt_ok (rs := rs_r29_Take) rfl rfl hK [0] rfl rfl rfl rfl rfl rfl
      · rw [show (!validB m k.f1) = false from h2, show (k.f1 == k.b1) = false from h3] at hx
        cases hx
        refine ⟨m, ⟨rfl, rfl⟩, ?_⟩
        exact fin_k tt_ok (rs := rs_r29_Take) rfl rfl hK [0] rfl rfl rfl rfl rfl rfl
  · rw [show (!(p == 0 || p == 1)) = true by simp [hp0, hp1]] at hx
    cases hx
    refine enter fn_r29_Take rfl nt_r29_Take rfl rfl (fun φ w0 β0 F => ?_)
    refine c_run tt_ok ctRTk_ok k_r29_Take [100015] 60 (by kernel_rfl) ?_
    refine ⟨.t (.s (.bool true)), fun β => told_bl (by simp [hp0, hp1]), rfl, ?_⟩
    refine ⟨fun _ => ?_, fun h => absurd h (by decide)⟩
    exact fin_k tt_ok (rs := rs_r29_Take) rfl rfl hK [0] rfl rfl rfl rfl rfl rfl
noncomputable abbrev eRTake : Ent := .st (conS (P := Try.prog) (f := f_r29_Take) fun cargs σ0 => match cargs, σ0 with
  | [.agg cs, .s (.sl 0 0 n cap), .s (.int .i64 d)], [.view xs] => withCore cs fun k hk => some ⟨.ex (Ram × Core × Int × Int) fun p => .ask (n = p.1.l.length ∧ xs = bytesI p.1.l ∧ k.ok ∧ takR k p.1 d = p.2)
      (.ret (.tup [.agg p.2.1.sv, .s (.int .i32 p.2.2.1), .s (.int .i64 p.2.2.2)]) [.view (bytesI p.1.l)]), fun K h => by
      obtain ⟨⟨m, k', w', e'⟩, ⟨e1, e2, h1, h2⟩, h⟩ := h
      dsimp only at e1 e2 h2 h
      subst e1; subst e2; subst hk
      exact RTake_c k m cap d k' w' e' h1 h2 K h⟩
  | _, _ => none)
noncomputable abbrev ctRSr : CT := [(f_r29_Take, eRTake), (f_r29_Nobody, .pure spRNobody), (f_r29_Word, eRWord9)]
theorem ctRSr_ok : CTok Try.prog ctRSr := ⟨con_ok cal_r29_Take _, ceRNobody, con_ok cal_r29_Word _, trivial⟩
theorem Rstart_c (k : Core) (m : Ram) (cap : Nat) (p : Int) (k' : Core) (e' : Int) (hok : k.ok) (hx : staR k m p = (k', e')) : Con Try.prog f_r29_start [.agg k.sv, .s (.sl 0 0 m.l.length cap), .s (.int .i64 p)] [.view (bytesI m.l)]
    (.ret (.tup [.agg k'.sv, .s (.int .i64 e')]) [.view (bytesI m.l)]) := by
  intro K hK
  obtain ⟨⟨k1, w, e⟩, hR⟩ : ∃ r, takR k m p = r := ⟨_, rfl⟩
  unfold staR at hx
  rw [hR] at hx
  refine enter fn_r29_start rfl nt_r29_start rfl rfl (fun φ w0 β0 F => ?_)
  refine c_run tt_ok ctRSr_ok k_r29_start [] 90 (by kernel_rfl) ?_
  refine ⟨(m, k1, w, e), ⟨rfl, rfl, hok, hR⟩, fun h => ?_, fun h => ?_⟩
  · rw [show (e != 0) = true from h] at hx
    cases hx
    exact fin_k tt_ok (rs := rs_r29_start) rfl rfl hK [0] rfl rfl rfl rfl rfl rfl
  · rw [show (e != 0) = false from h] at hx
    cases hx
    refine ⟨trivial, m, ⟨rfl, rfl⟩, ?_⟩
    exact fin_k tt_ok (rs := rs_r29_start) rfl rfl hK [0] rfl rfl rfl rfl rfl rfl
noncomputable abbrev eRStart : Ent := .st (conS (P := Try.prog) (f := f_r29_start) fun cargs σ0 => match cargs, σ0 with
  | [.agg cs, .s (.sl 0 0 n cap), .s (.int .i64 d)], [.view xs] => withCore cs fun k hk => some ⟨.ex (Ram × Core × Int) fun p => .ask (n = p.1.l.length ∧ xs = bytesI p.1.l ∧ k.ok ∧ staR k p.1 d = p.2)
      (.ret (.tup [.agg p.2.1.sv, .s (.int .i64 p.2.2)]) [.view (bytesI p.1.l)]), fun K h => by
      obtain ⟨⟨m, k', e'⟩, ⟨e1, e2, h1, h2⟩, h⟩ := h
      dsimp only at e1 e2 h2 h
      subst e1; subst e2; subst hk
      exact Rstart_c k m cap d k' e' h1 h2 K h⟩
  | _, _ => none)
noncomputable abbrev ctRSe : CT := [(f_r29_start, eRStart), (f_r29_Nobody, .pure spRNobody)]
theorem ctRSe_ok : CTok Try.prog ctRSe := ⟨con_ok cal_r29_start _, ceRNobody, trivial⟩
theorem priB_not {p : Int} : (bif p != 0 then p != 1 else false) = !priB p := by
  unfold priB
  by_cases h0 : p = 0
  · subst h0; rfl
  · by_cases h1 : p = 1
    · subst h1; rfl
    · simp [h0, h1, bne]
theorem RSettle_c (k : Core) (m : Ram) (cap : Nat) (k' : Core) (e' : Int) (hok : k.ok) (hx : setR k m = (k', e')) : Con Try.prog f_r29_Settle [.agg k.sv, .s (.sl 0 0 m.l.length cap)] [.view (bytesI m.l)]
    (.ret (.tup [.agg k'.sv, .s (.int .i64 e')]) [.view (bytesI m.l)]) := by
  intro K hK
  unfold setR at hx
  refine enter fn_r29_Settle rfl nt_r29_Settle rfl rfl (fun φ w0 β0 F => ?_)
  refine c_run tt_ok ctRSe_ok k_r29_Settle [100014] 90 (by kernel_rfl) ?_
  refine ⟨.t (.s (.bool (!priB k.pri))), fun β => told_bl priB_not, rfl, ?_⟩
  refine ⟨fun h1 => ?_, fun h1 => ?_⟩
  · rw [h1] at hx
    cases hx
    exact fin_k tt_ok (rs := rs_r29_Settle) rfl rfl hK [0] rfl rfl rfl rfl rfl rfl
  rw [h1] at hx
  refine ⟨fun h2 => ?_, fun h2 => ⟨fun h3 => ⟨trivial, fun h => absurd h (by decide), fun _ => ⟨fun h4 => ?_, fun h4 => ?_⟩⟩, fun h3 => ⟨fun h4 => ?_, fun h4 => ⟨fun h5 => ?_, fun h5 => ⟨fun h6 => ?_, fun h6 => ⟨fun h7 => ?_, fun h7 => ?_⟩⟩⟩⟩⟩⟩
  · rw [show k.halted = true from h2] at hx
    cases hx
    exact fin_k tt_ok (rs := rs_r29_Settle) rfl rfl hK [0] rfl rfl rfl rfl rfl rfl
  · rw [show k.halted = false from h2, show (bif bif k.busy then k.pri == 1 else false then k.high else false) = true from h3] at hx
    refine ⟨(m, k', e'), ⟨rfl, rfl, sav_ok hok, hx⟩, ?_⟩
    exact fin_k tt_ok (rs := rs_r29_Settle) rfl rfl hK [0] rfl rfl rfl rfl rfl rfl
  · exfalso
    have h4' : (k.f0 != -2147483648) = false := h4
    rw [h4'] at h3
    cases hb : (bif k.busy then k.pri == 1 else false) <;> simp [hb] at h3
  all_goals rw [show k.halted = false from h2, show (bif bif k.busy then k.pri == 1 else false then k.high else false) = false from h3] at hx
  · rw [show k.busy = true from h4] at hx
    cases hx
    exact fin_k tt_ok (rs := rs_r29_Settle) rfl rfl hK [0] rfl rfl rfl rfl rfl rfl
  all_goals rw [show k.busy = false from h4] at hx
  · rw [show k.high = true from h5] at hx
    refine ⟨(m, k', e'), ⟨rfl, rfl, hok, hx⟩, ?_⟩
    exact fin_k tt_ok (rs := rs_r29_Settle) rfl rfl hK [0] rfl rfl rfl rfl rfl rfl
  all_goals rw [show k.high = false from h5] at hx
  · rw [show k.sis = true from h6] at hx
    cases hx
    exact fin_k tt_ok (rs := rs_r29_Settle) rfl rfl hK [0] rfl rfl rfl rfl rfl rfl
  · rw [show k.sis = false from h6, show (!(k.f1 == NP)) = true from h7] at hx
    refine ⟨(m, k', e'), ⟨rfl, rfl, hok, hx⟩, ?_⟩
    exact fin_k tt_ok (rs := rs_r29_Settle) rfl rfl hK [0] rfl rfl rfl rfl rfl rfl
  · rw [show k.sis = false from h6, show (!(k.f1 == NP)) = false from h7] at hx
    cases hx
    exact fin_k tt_ok (rs := rs_r29_Settle) rfl rfl hK [0] rfl rfl rfl rfl rfl rfl
noncomputable abbrev eRSettle : Ent := .st (conS (P := Try.prog) (f := f_r29_Settle) fun cargs σ0 => match cargs, σ0 with
  | [.agg cs, .s (.sl 0 0 n cap)], [.view xs] => withCore cs fun k hk => some ⟨.ex (Ram × Core × Int) fun p => .ask (n = p.1.l.length ∧ xs = bytesI p.1.l ∧ k.ok ∧ setR k p.1 = p.2)
      (.ret (.tup [.agg p.2.1.sv, .s (.int .i64 p.2.2)]) [.view (bytesI p.1.l)]), fun K h => by
      obtain ⟨⟨m, k', e'⟩, ⟨e1, e2, h1, h2⟩, h⟩ := h
      dsimp only at e1 e2 h2 h
      subst e1; subst e2; subst hk
      exact RSettle_c k m cap k' e' h1 h2 K h⟩
  | _, _ => none)
theorem or_i32 {w p : Int} (hw : w % 4 = 0) (hp : p = 0 ∨ p = 1) : bits .or .i32 w p = IntKind.i32.wrap (w + p) := by
  have e : bits .or .i32 w p = IntKind.i32.wrap ((BitVec.ofInt 32 w ||| BitVec.ofInt 32 p).toNat : Int) := rfl
  have hx : (BitVec.ofInt 32 w).toNat % 2 = 0 := by
    rw [BitVec.toNat_ofInt]; have : ((2 ^ 32 : Nat) : Int) = 4294967296 := rfl
    rw [this]; omega
  have hand : BitVec.ofInt 32 w &&& BitVec.ofInt 32 p = 0#32 := by
    rcases hp with rfl | rfl
    · simp
    · apply BitVec.eq_of_toNat_eq
      rw [BitVec.toNat_and, show (BitVec.ofInt 32 1).toNat = 1 from rfl, Nat.and_one_is_mod, hx]; rfl
  rw [e, ← BitVec.add_eq_or_of_and_eq_zero _ _ hand, BitVec.toNat_add, BitVec.toNat_ofInt, BitVec.toNat_ofInt, IntKind.wrap_i32, IntKind.wrap_i32]
  have : ((2 ^ 32 : Nat) : Int) = 4294967296 := rfl
  rw [this]
  omega
theorem validB_len {m m' : Ram} (h : m'.l.length = m.l.length) (w : Int) : validB m' w = validB m w := by unfold validB; rw [h]
theorem valid_four {m : Ram} {w : Int} (h : validB m w = true) : w % 4 = 0 := by
  unfold validB at h
  cases h4 : (w % 4 == 0) <;> rw [h4] at h
  · simp at h
  · simpa using h4
theorem wsp_add {w p : Int} (hI : I32 w) (hw : w % 4 = 0) (hp : p = 0 ∨ p = 1) : IntKind.i32.wrap (w + p) = w + p ∧ wsp (w + p) = w ∧ odd (w + p) = (p == 1) := by
  unfold I32 at hI
  rcases hp with rfl | rfl
  · refine ⟨by rw [IntKind.wrap_i32]; omega, by unfold wsp; omega, ?_⟩
    unfold odd; simp; omega
  · refine ⟨by rw [IntKind.wrap_i32]; omega, by unfold wsp; omega, ?_⟩
    unfold odd; simp; omega
noncomputable abbrev ctRSl : CT := [(f_r29_Wait, eRWait), (f_r29_Append, eRAppend)]
theorem ctRSl_ok : CTok Try.prog ctRSl := ⟨con_ok cal_r29_Wait _, con_ok cal_r29_Append _, trivial⟩
theorem RSlice_c (k : Core) (m : Ram) (cap : Nat) (k' : Core) (e' : Int) (m' : Ram) (hok : k.ok) (hc : m.l.length ≤ cap) (hx : sliR k m = (k', e', m')) : Con Try.prog f_r29_Slice [.agg k.sv, .s (.sl 0 0 m.l.length cap)] [.view (bytesI m.l)] (RES m m' k' e') := by
  intro K hK
  unfold sliR at hx
  refine enter fn_r29_Slice rfl nt_r29_Slice rfl rfl (fun φ w0 β0 F => ?_)
  refine c_run tt_ok ctRSl_ok k_r29_Slice [100017] 90 (by kernel_rfl) ?_
  refine ⟨.t (.s (.bool (!priB k.pri))), fun β => told_bl priB_not, rfl, ?_⟩
  refine ⟨fun h1 => ?_, fun h1 => ⟨fun h2 => ?_, fun h2 => ?_⟩⟩
  · rw [h1] at hx
    cases hx
    refine WpE.into (aliasSlot 5 0 0 m.l.length cap rfl rfl) ?_
    refine fin_k tt_ok (rs := rs_r29_Slice) rfl rfl (hK cap hc) [0, 3] rfl ?_ rfl rfl rfl rfl
    rw [seg_all]; rfl
  · rw [h1, show (bif bif bif !k.busy then true else k.pri == 0 then true else decide (k.slice < 64) then true else k.f1 == NP) = true from h2] at hx
    cases hx
    refine WpE.into (aliasSlot 5 0 0 m.l.length cap rfl rfl) ?_
    refine fin_k tt_ok (rs := rs_r29_Slice) rfl rfl (hK cap hc) [0, 3] rfl ?_ rfl rfl rfl rfl
    rw [seg_all]; rfl
  · have h2' : (bif bif bif !k.busy then true else k.pri == 0 then true else decide (k.slice < 64) then true else k.f1 == NP) = false := h2
    rw [h1, h2'] at hx
    have hb : k.busy = true := by
      cases hb : k.busy with
      | true => rfl
      | false => rw [hb] at h2'; simp at h2'
    have hf : (k.f1 == NP) = false := by
      cases hf : (k.f1 == NP) with
      | false => rfl
      | true => rw [hf] at h2'; cases hq : (bif bif !k.busy then true else k.pri == 0 then true else decide (k.slice < 64)) <;> rw [hq] at h2' <;> simp at h2'
    cases hV : validB m k.wptr with
    | false =>
      rw [hV] at hx
      cases hx
      refine ⟨(m, .zero, 4, m), ⟨rfl, rfl, hok.wptr, hc, by unfold waR; rw [hb, hV]; rfl⟩, fun c1 h3 => ?_⟩
      refine ⟨fun _ => ?_, fun h => absurd (show ((4 : Int) != 0) = false from h) (by decide)⟩
      refine WpE.into (aliasSlot 5 0 0 m.l.length cap rfl rfl) ?_
      refine fin_k tt_ok (rs := rs_r29_Slice) rfl rfl (hK cap hc) [0, 5] rfl ?_ rfl rfl rfl rfl
      rw [seg_all]; rfl
    | true =>
      have h4 := valid_four hV
      obtain ⟨a1, a2, a3⟩ := wsp_add hok.wptr h4 (.inr rfl)
      obtain ⟨m1, hm1⟩ : ∃ m1, m.set (IntKind.i32.wrap (k.wptr + -4)) k.iptr = m1 := ⟨_, rfl⟩
      have hl1 : m1.l.length = m.l.length := by rw [← hm1]; exact set_len _ _ _
      have hW : waR k m = (k.nobody, 0, m1) := by unfold waR; rw [hb, hV, hm1]; rfl
      have hwE : waitE k m = 0 := by unfold waitE; rw [hb, hV]; rfl
      have hwK : waitK k m = k.nobody := by unfold waitK; rw [hwE]; rfl
      have hwM : waitM k m = m1 := by unfold waitM; rw [hwE, ← hm1]; rfl
      rw [hV, hwK, hwM, or_i32 h4 (.inr rfl)] at hx
      refine ⟨(m, k.nobody, 0, m1), ⟨rfl, rfl, hok.wptr, hc, hW⟩, fun c1 h3 => ?_⟩
      have h3' : m1.l.length ≤ c1 := h3
      refine ⟨fun h => absurd (show ((0 : Int) != 0) = true from h) (by decide), fun _ => ?_⟩
      have hfr : k.nobody.fr true = k.f1 := rfl
      have hbk : k.nobody.bk true = k.b1 := rfl
      cases hB : validB m k.b1 with
      | false =>
        rw [hB] at hx
        cases hx
        have hA : appR k.nobody m1 (IntKind.i32.wrap (k.wptr + 1)) = (.zero, 4, m1) := by
          unfold appR
          rw [a1, a2, a3, show ((1 : Int) == 1) = true from rfl, hfr, hbk, validB_len hl1, validB_len hl1, hV, hB, hf]; rfl
        refine ⟨(m1, .zero, 4, m1), ⟨rfl, rfl, ⟨nobody_ok hok, I32_wrap _, h3'⟩, hA⟩, fun c2 h5 => ?_⟩
        refine ⟨fun _ => ?_, fun h => absurd (show ((4 : Int) != 0) = false from h) (by decide)⟩
        refine WpE.into (aliasSlot 5 0 0 m.l.length cap rfl rfl) ?_
        refine fin_k tt_ok (rs := rs_r29_Slice) rfl rfl (hK cap hc) [0, 6] rfl ?_ rfl rfl rfl rfl
        rw [seg_all]; rfl
      | true =>
        rw [hB] at hx
        have hx' : appR k.nobody m1 (IntKind.i32.wrap (k.wptr + 1)) = (k', e', m') := hx
        have he : e' = 0 := by
          unfold appR at hx'
          rw [a1, a2, a3, show ((1 : Int) == 1) = true from rfl, hfr, hbk, validB_len hl1, validB_len hl1, hV, hB, hf] at hx'
          cases hx'; rfl
        subst he
        refine ⟨(m1, k', 0, m'), ⟨rfl, rfl, ⟨nobody_ok hok, I32_wrap _, h3'⟩, hx'⟩, fun c2 h5 => ?_⟩
        refine ⟨fun h => absurd (show ((0 : Int) != 0) = true from h) (by decide), fun _ => ?_⟩
        exact fin_k tt_ok (rs := rs_r29_Slice) rfl rfl (hK c2 h5) [0, 5] rfl rfl rfl rfl rfl rfl
noncomputable abbrev eRSlice : Ent := .st (conS (P := Try.prog) (f := f_r29_Slice) fun cargs σ0 => match cargs, σ0 with
  | [.agg cs, .s (.sl 0 0 n cap)], [.view xs] => withCore cs fun k hk => some ⟨.ex (Ram × Core × Int × Ram) fun p => .ask (n = p.1.l.length ∧ xs = bytesI p.1.l ∧ (k.ok ∧ p.1.l.length ≤ cap) ∧ sliR k p.1 = p.2) (RES p.1 p.2.2.2 p.2.1 p.2.2.1), fun K h => by
      obtain ⟨⟨m, k', e', m'⟩, ⟨e1, e2, ⟨h1, h2⟩, h3⟩, h⟩ := h
      dsimp only at e1 e2 h1 h2 h3 h
      subst e1; subst e2; subst hk
      exact RSlice_c k m cap k' e' m' h1 h2 h3 K h⟩
  | _, _ => none)
end Go.Proofs

namespace Go.Proofs
open Go Go.Sx
set_option maxRecDepth 10000
theorem RMine_c (fn n : Int) : Con Try.prog f_r29_Mine [.agg [.int .u8 fn, .int .i32 n]] [] (.ret (.t (.s (.bool (mineB fn n)))) []) := by
  intro K hK
  refine enter fn_r29_Mine rfl nt_r29_Mine rfl rfl (fun φ w0 β0 F => ?_)
  refine c_run tt_ok (ct := []) trivial k_r29_Mine [100033] 60 (by kernel_rfl) ?_
  refine ⟨fun h => ?_, fun h => ?_⟩
  · rw [show mineB fn n = false by unfold mineB; rw [show (fn == 15) = false by simpa [bne] using h]; rfl] at hK
    exact fin_k tt_ok (rs := rs_r29_Mine) rfl rfl hK [] rfl rfl rfl rfl rfl rfl
  · have hm : mineB fn n = isOp n := by unfold mineB; rw [show (fn == 15) = true by simpa [bne] using h]; rfl
    rw [hm] at hK
    refine ⟨.t (.s (.bool (isOp n))), fun β => told_bl (by unfold isOp; cases (n == 13) <;> cases (n == 3) <;> cases (n == 57) <;> cases (n == 21) <;> cases (n == 85) <;> cases (n == 30) <;> rfl), rfl, ?_⟩
    exact fin_k tt_ok (rs := rs_r29_Mine) rfl rfl hK [] rfl rfl rfl rfl rfl rfl
def spRMine : List TV → Option (Prop × FV)
  | [.agg [.int .u8 fn, .int .i32 n]] => some (True, .t (.s (.bool (mineB fn n))))
  | _ => none
theorem ceRMine : CEok Try.prog f_r29_Mine spRMine := ⟨cal_r29_Mine, fun args p v h hp => by
  unfold spRMine at h; split at h
  · cases h; exact (RMine_c _ _).pure
  · cases h⟩
theorem RClear_c (k : Core) : Con Try.prog f_r29_clear [.agg k.sv] [] (.ret (.t (.agg k.clear.sv)) []) := by
  intro K hK
  refine enter fn_r29_clear rfl nt_r29_clear rfl rfl (fun φ w0 β0 F => ?_)
  refine c_run tt_ok (ct := []) trivial k_r29_clear [] 60 (by kernel_rfl) ?_
  exact fin_k tt_ok (rs := rs_r29_clear) rfl rfl hK [] rfl rfl rfl rfl rfl rfl
def spRClear : List TV → Option (Prop × FV)
  | [.agg cs] => withCore cs fun k _ => some (True, .t (.agg k.clear.sv))
  | _ => none
theorem ceRClear : CEok Try.prog f_r29_clear spRClear := ⟨cal_r29_clear, fun args p v h hp => by
  unfold spRClear at h; split at h
  · obtain ⟨k, hk, h⟩ := withCore_some h
    cases h; subst hk; exact (RClear_c _).pure
  · cases h⟩
theorem clear_fr (k : Core) (o : Bool) : k.clear.fr o = k.fr o ∧ k.clear.bk o = k.bk o := by cases o <;> exact ⟨rfl, rfl⟩
theorem appR_clear (k : Core) (m : Ram) (d : Int) : appR k.clear m d = ((appR k m d).1.clear, (appR k m d).2.1, (appR k m d).2.2) := by
  unfold appR
  rw [(clear_fr k _).1, (clear_fr k _).2]
  cases (bif !validB m (wsp d) then true else bif !(k.fr (odd d) == NP) then !validB m (k.bk (odd d)) else false)
  · cases (k.fr (odd d) == NP)
    · cases (odd d) <;> rfl
    · cases (odd d) <;> rfl
  · rfl
theorem appR_err (k : Core) (m : Ram) (d : Int) : ((appR k m d).2.1 = 4 ∧ appR k m d = (.zero, 4, m)) ∨ (appR k m d).2.1 = 0 := by
  unfold appR
  cases (bif !validB m (wsp d) then true else bif !(k.fr (odd d) == NP) then !validB m (k.bk (odd d)) else false)
  · cases (k.fr (odd d) == NP)
    · exact .inr rfl
    · exact .inr rfl
  · exact .inl ⟨rfl, rfl⟩
noncomputable abbrev ctRSa : CT := [(f_r29_Valid, eRValid), (f_r29_Set, eRSet), (f_r29_Append, eRAppend), (f_r29_clear, .pure spRClear)]
theorem ctRSa_ok : CTok Try.prog ctRSa := ⟨con_ok cal_r29_Valid _, con_ok cal_r29_Set _, con_ok cal_r29_Append _, ceRClear, trivial⟩
set_option maxHeartbeats 1000000 in
theorem Rstartp_c (k : Core) (m : Ram) (cap : Nat) (k' : Core) (e' : Int) (m' : Ram) (hok : k.ok) (hp : k.pri = 0 ∨ k.pri = 1) (hc : m.l.length ≤ cap) (hx : stpR k m = (k', e', m')) : Con Try.prog f_r29_startp [.agg k.sv, .s (.sl 0 0 m.l.length cap)] [.view (bytesI m.l)] (RES m m' k' e') := by
  intro K hK
  unfold stpR at hx
  refine enter fn_r29_startp rfl nt_r29_startp rfl rfl (fun φ w0 β0 F => ?_)
  refine c_run tt_ok ctRSa_ok k_r29_startp [] 90 (by kernel_rfl) ?_
  refine ⟨m, ⟨rfl, rfl, hok.a⟩, fun h1 => ?_, fun h1 => ?_⟩
  · rw [show (!validB m k.a) = true from h1] at hx
    cases hx
    refine WpE.into (aliasSlot 5 0 0 m.l.length cap rfl rfl) ?_
    refine fin_k tt_ok (rs := rs_r29_startp) rfl rfl (hK cap hc) [0, 3] rfl ?_ rfl rfl rfl rfl
    rw [seg_all]; rfl
  · have hV : validB m k.a = true := by simpa using h1
    have h4 := valid_four hV
    obtain ⟨a1, a2, a3⟩ := wsp_add hok.a h4 hp
    obtain ⟨m1, hm1⟩ : ∃ m1, m.set (IntKind.i32.wrap (k.a + -4)) (IntKind.i32.wrap (k.iptr + k.b)) = m1 := ⟨_, rfl⟩
    have hl1 : m1.l.length = m.l.length := by rw [← hm1]; exact set_len _ _ _
    have hpw : IntKind.i32.wrap k.pri = k.pri := by rcases hp with e | e <;> rw [e] <;> rfl
    have hd : IntKind.i32.wrap (k.a + IntKind.i32.wrap k.pri) = k.a + k.pri := by rw [hpw, a1]
    rw [or_i32 h4 hp, a1, hm1, hV] at hx
    obtain ⟨⟨k2, e2, m2⟩, hA⟩ : ∃ r, appR k m1 (k.a + k.pri) = r := ⟨_, rfl⟩
    have hcl := appR_clear k m1 (k.a + k.pri)
    rw [hA] at hcl
    dsimp only at hcl
    have hA' : appR k m1 (IntKind.i32.wrap (k.a + IntKind.i32.wrap k.pri)) = (k2, e2, m2) := by rw [hd]; exact hA
    have hfin : (e2 = 4 ∧ k' = .zero ∧ e' = 4 ∧ m' = m) ∨ (e2 = 0 ∧ k' = k2.clear ∧ e' = 0 ∧ m' = m2) := by
      unfold appR at hA
      rw [a2, a3, validB_len hl1, validB_len hl1, hV] at hA
      cases hB : (bif !(k.fr (k.pri == 1) == NP) then !validB m (k.bk (k.pri == 1)) else false) with
      | true =>
        rw [hB] at hx hA
        cases hx; cases hA
        exact .inl ⟨rfl, rfl, rfl, rfl⟩
      | false =>
        rw [hB] at hx hA
        have hx' : appR k.clear m1 (k.a + k.pri) = (k', e', m') := hx
        rw [hcl] at hx'
        cases hx'
        refine .inr ⟨?_, rfl, ?_, rfl⟩
        all_goals
          cases hq : (k.fr (k.pri == 1) == NP) <;> rw [hq] at hA <;> (have := congrArg (fun x => x.2.1) hA; exact this.symm)
    show WpC _ _ _ _ _
    refine c_waysH tt_ok ctRSa_ok k_r29_startp [0, 1] rfl rfl rfl ?_
    have hA2 : appR k (m.set (IntKind.i32.wrap (k.a + -4)) (IntKind.i32.wrap (k.iptr + k.b))) (IntKind.i32.wrap (k.a + IntKind.i32.wrap k.pri)) = (k2, e2, m2) := by rw [hm1]; exact hA'
    have hl2 : ∀ c1, m.l.length ≤ c1 → (m.set (IntKind.i32.wrap (k.a + -4)) (IntKind.i32.wrap (k.iptr + k.b))).l.length ≤ c1 := fun c1 h => by rw [set_len]; exact h
    repeat' (first | exact trivial | exact ⟨rfl, rfl, trivial⟩ | (refine Exists.intro m ?_; refine And.intro ⟨rfl, rfl, hc⟩ ?_; intro c1 h3) | (refine Exists.intro (m.set (IntKind.i32.wrap (k.a + -4)) (IntKind.i32.wrap (k.iptr + k.b)), k2, e2, m2) ?_; refine And.intro ⟨rfl, rfl, ⟨hok, I32_wrap _, hl2 _ h3⟩, hA2⟩ ?_; intro c2 h5) | (refine And.intro ?_ ?_))
    all_goals
      refine e_run tt_ok ctRSa_ok k_r29_startp [] 60 (by kernel_rfl) ?_
      refine ⟨fun h6 => ?_, fun h6 => ?_⟩
      · have h6' : (e2 != 0) = true := h6
        obtain ⟨g1, g2, g3, g4⟩ : e2 = 4 ∧ k' = .zero ∧ e' = 4 ∧ m' = m := by
          rcases hfin with h | ⟨h, _⟩
          · exact h
          · rw [h] at h6'; exact absurd h6' (by decide)
        subst g1; subst g2; subst g3; subst g4
        refine WpE.into (aliasSlot 5 0 0 m'.l.length cap rfl rfl) ?_
        refine fin_k tt_ok (rs := rs_r29_startp) rfl rfl (hK cap hc) [0, 6] rfl ?_ rfl rfl rfl rfl
        rw [seg_all]; rfl
      · have h6' : (e2 != 0) = false := h6
        obtain ⟨g1, g2, g3, g4⟩ : e2 = 0 ∧ k' = k2.clear ∧ e' = 0 ∧ m' = m2 := by
          rcases hfin with ⟨h, _⟩ | h
          · rw [h] at h6'; exact absurd h6' (by decide)
          · exact h
        subst g1; subst g2; subst g3; subst g4
        refine ⟨trivial, ?_⟩
        first
          | exact fin_k tt_ok (rs := rs_r29_startp) rfl rfl (hK _ h5) [0, 4] rfl rfl rfl rfl rfl rfl
          | exact fin_k tt_ok (rs := rs_r29_startp) rfl rfl (hK _ h5) [0, 5] rfl rfl rfl rfl rfl rfl
noncomputable abbrev eRStartp : Ent := .st (conS (P := Try.prog) (f := f_r29_startp) fun cargs σ0 => match cargs, σ0 with
  | [.agg cs, .s (.sl 0 0 n cap)], [.view xs] => withCore cs fun k hk => some ⟨.ex (Ram × Core × Int × Ram) fun p => .ask (n = p.1.l.length ∧ xs = bytesI p.1.l ∧ (k.ok ∧ (k.pri = 0 ∨ k.pri = 1) ∧ p.1.l.length ≤ cap) ∧ stpR k p.1 = p.2) (RES p.1 p.2.2.2 p.2.1 p.2.2.1), fun K h => by
      obtain ⟨⟨m, k', e', m'⟩, ⟨e1, e2, ⟨h1, h2, h3⟩, h4⟩, h⟩ := h
      dsimp only at e1 e2 h1 h2 h3 h4 h
      subst e1; subst e2; subst hk
      exact Rstartp_c k m cap k' e' m' h1 h2 h3 h4 K h⟩
  | _, _ => none)
theorem lies8 {m : Ram} {w : Int} (hI : I32 w) (hV : validB m w = true) : (m.err (IntKind.i32.wrap (w + 4)) != 0) = !liesB m.l.length w 8 := by
  have hlo := m.lo
  have hhi := m.hi
  have h4 := valid_four hV
  unfold validB at hV
  have hw : ofAt w ≥ 20 ∧ ofAt w + 4 ≤ m.l.length := by
    by_cases h1 : ofAt w ≥ 20 <;> by_cases h2 : ofAt w + 4 ≤ m.l.length <;> simp [h1, h2] at hV ⊢
  unfold ofAt at hw
  have hwr : IntKind.i32.wrap (w + 4) = w + 4 := by unfold I32 at hI; rw [IntKind.wrap_i32]; omega
  have hwa : wAt (w + 4) = w + 4 := by unfold wAt; omega
  rw [hwr]
  unfold Ram.err wBad spanBad liesB ofAt
  rw [hwa]
  by_cases h8 : w + 2147483648 + 8 ≤ m.l.length
  · rw [show decide (w + 4 + 2147483648 ≥ (m.l.length : Int)) = false by simp; omega, show decide ((4 : Int) > (m.l.length : Int) - (w + 4 + 2147483648)) = false by simp; omega, show decide ((8 : Int) ≥ 0) = true by decide, show decide (w + 2147483648 < (m.l.length : Int)) = true by simp; omega, show decide ((8 : Int) ≤ (m.l.length : Int) - (w + 2147483648)) = true by simp; omega]; rfl
  · rw [show decide ((8 : Int) ≤ (m.l.length : Int) - (w + 2147483648)) = false by simp; omega]
    by_cases hg : w + 4 + 2147483648 ≥ (m.l.length : Int)
    · rw [show decide (w + 4 + 2147483648 ≥ (m.l.length : Int)) = true by simpa using hg]
      cases (bif decide ((8 : Int) ≥ 0) then decide (w + 2147483648 < (m.l.length : Int)) else false) <;> rfl
    · rw [show decide ((4 : Int) > (m.l.length : Int) - (w + 4 + 2147483648)) = true by simp; omega]
      cases decide (w + 4 + 2147483648 ≥ (m.l.length : Int)) <;> cases (bif decide ((8 : Int) ≥ 0) then decide (w + 2147483648 < (m.l.length : Int)) else false) <;> rfl
noncomputable abbrev ctREn : CT := [(f_r29_Valid, eRValid), (f_r03_Lies, .pure spLies), (f_r29_Word, eRWord9), (f_r29_Set, eRSet), (f_r29_Nobody, .pure spRNobody), (f_r29_clear, .pure spRClear)]
theorem ctREn_ok : CTok Try.prog ctREn := ⟨con_ok cal_r29_Valid _, ceLies, con_ok cal_r29_Word _, con_ok cal_r29_Set _, ceRNobody, ceRClear, trivial⟩
theorem Rendp_c (k : Core) (m : Ram) (cap : Nat) (k' : Core) (e' : Int) (m' : Ram) (hok : k.ok) (hc : m.l.length ≤ cap) (hx : enpR k m = (k', e', m')) : Con Try.prog f_r29_endp [.agg k.sv, .s (.sl 0 0 m.l.length cap)] [.view (bytesI m.l)] (RES m m' k' e') := by
  intro K hK
  unfold enpR at hx
  refine enter fn_r29_endp rfl nt_r29_endp rfl rfl (fun φ w0 β0 F => ?_)
  refine c_run tt_ok ctREn_ok k_r29_endp [100021, 100033] 90 (by kernel_rfl) ?_
  refine ⟨m, ⟨rfl, rfl, hok.a⟩, ?_⟩
  have hb : (bif !validB m k.a then true else !liesB m.l.length k.a 8) = (bif !validB m k.a then true else m.err (IntKind.i32.wrap (k.a + 4)) != 0) := by
    cases hV : validB m k.a with
    | false => rfl
    | true => rw [lies8 hok.a hV]
  have hhi := m.hi
  refine ⟨fun _ => ⟨by omega, by omega, hok.a⟩, ?_⟩
  refine ⟨.t (.s (.bool (bif !validB m k.a then true else m.err (IntKind.i32.wrap (k.a + 4)) != 0))), fun β => told_bl hb, rfl, ?_⟩
  refine ⟨fun h1 => ?_, fun h1 => ?_⟩
  · rw [h1] at hx
    cases hx
    refine WpE.into (aliasSlot 5 0 0 m.l.length cap rfl rfl) ?_
    refine fin_k tt_ok (rs := rs_r29_endp) rfl rfl (hK cap hc) [0, 3] rfl ?_ rfl rfl rfl rfl
    rw [seg_all]; rfl
  · rw [h1] at hx
    have hw : I32 (m.word (IntKind.i32.wrap (k.a + 4))) := word_I32 _ _
    have hb2 : (IntKind.i32.wrap (m.word (IntKind.i32.wrap (k.a + 4)) - 1) != 0) = (m.word (IntKind.i32.wrap (k.a + 4)) != 1) := by
      generalize m.word (IntKind.i32.wrap (k.a + 4)) = x at hw
      unfold I32 at hw
      rw [IntKind.wrap_i32, Bool.eq_iff_iff, bne_iff_ne, bne_iff_ne]
      omega
    refine ⟨m, ⟨rfl, rfl⟩, ?_⟩
    refine ⟨m, ⟨rfl, rfl, hc⟩, fun c1 h3 => ?_⟩
    refine ⟨.t (.s (.bool (m.word (IntKind.i32.wrap (k.a + 4)) != 1))), fun β => told_bl hb2, rfl, ?_⟩
    have h3' : (m.set (IntKind.i32.wrap (k.a + 4)) (IntKind.i32.wrap (m.word (IntKind.i32.wrap (k.a + 4)) - 1))).l.length ≤ c1 := by rw [set_len]; exact h3
    refine ⟨fun h2 => ?_, fun h2 => ?_⟩
    · rw [h2] at hx
      cases hx
      refine ⟨trivial, ?_⟩
      exact fin_k tt_ok (rs := rs_r29_endp) rfl rfl (hK c1 h3') [0, 3] rfl rfl rfl rfl rfl rfl
    · rw [h2] at hx
      cases hx
      refine ⟨trivial, m.set (IntKind.i32.wrap (k.a + 4)) (IntKind.i32.wrap (m.word (IntKind.i32.wrap (k.a + 4)) - 1)), ⟨rfl, rfl⟩, ?_⟩
      exact fin_k tt_ok (rs := rs_r29_endp) rfl rfl (hK c1 h3') [0, 3] rfl rfl rfl rfl rfl rfl
noncomputable abbrev eREndp : Ent := .st (conS (P := Try.prog) (f := f_r29_endp) fun cargs σ0 => match cargs, σ0 with
  | [.agg cs, .s (.sl 0 0 n cap)], [.view xs] => withCore cs fun k hk => some ⟨.ex (Ram × Core × Int × Ram) fun p => .ask (n = p.1.l.length ∧ xs = bytesI p.1.l ∧ (k.ok ∧ p.1.l.length ≤ cap) ∧ enpR k p.1 = p.2) (RES p.1 p.2.2.2 p.2.1 p.2.2.1), fun K h => by
      obtain ⟨⟨m, k', e', m'⟩, ⟨e1, e2, ⟨h1, h2⟩, h3⟩, h⟩ := h
      dsimp only at e1 e2 h1 h2 h3 h
      subst e1; subst e2; subst hk
      exact Rendp_c k m cap k' e' m' h1 h2 h3 K h⟩
  | _, _ => none)
noncomputable abbrev ctREx : CT := [(f_r29_Mine, .pure spRMine), (f_r29_startp, eRStartp), (f_r29_endp, eREndp), (f_r29_Append, eRAppend), (f_r29_clear, .pure spRClear), (f_r29_Wait, eRWait)]
theorem ctREx_ok : CTok Try.prog ctREx := ⟨ceRMine, con_ok cal_r29_startp _, con_ok cal_r29_endp _, con_ok cal_r29_Append _, ceRClear, con_ok cal_r29_Wait _, trivial⟩
theorem waR_eq (k : Core) (m : Ram) : waR k m = (waitK k m, waitE k m, waitM k m) := by
  unfold waR waitK waitM waitE
  cases (!k.busy)
  · cases (!validB m k.wptr) <;> rfl
  · rfl
set_option maxHeartbeats 1000000 in
theorem RExec_c (k : Core) (m : Ram) (cap : Nat) (fn n : Int) (k' : Core) (e' : Int) (m' : Ram) (hok : k.ok) (hc : m.l.length ≤ cap) (hx : exeR k m fn n = (k', e', m')) : Con Try.prog f_r29_Exec [.agg k.sv, .s (.sl 0 0 m.l.length cap), .agg [.int .u8 fn, .int .i32 n]] [.view (bytesI m.l)] (RES m m' k' e') := by
  intro K hK
  unfold exeR at hx
  refine enter fn_r29_Exec rfl nt_r29_Exec rfl rfl (fun φ w0 β0 F => ?_)
  refine c_run tt_ok ctREx_ok k_r29_Exec [100019] 90 (by kernel_rfl) ?_
  refine ⟨.t (.s (.bool (!priB k.pri))), fun β => told_bl priB_not, rfl, ?_⟩
  refine ⟨fun h1 => ?_, fun h1 => ⟨trivial, fun h2 => ?_, fun h2 => ⟨fun h3 => ?_, fun h3 => ?_⟩⟩⟩
  · rw [h1] at hx
    cases hx
    refine WpE.into (aliasSlot 7 0 0 m.l.length cap rfl rfl) ?_
    refine fin_k tt_ok (rs := rs_r29_Exec) rfl rfl (hK cap hc) [0, 4] rfl ?_ rfl rfl rfl rfl
    rw [seg_all]; rfl
  · rw [h1, show (!mineB fn n) = true from h2] at hx
    cases hx
    refine WpE.into (aliasSlot 7 0 0 m.l.length cap rfl rfl) ?_
    refine fin_k tt_ok (rs := rs_r29_Exec) rfl rfl (hK cap hc) [0, 4] rfl ?_ rfl rfl rfl rfl
    rw [seg_all]; rfl
  · rw [h1, show (!mineB fn n) = false from h2, show (!k.busy) = true from h3] at hx
    cases hx
    refine WpE.into (aliasSlot 7 0 0 m.l.length cap rfl rfl) ?_
    refine fin_k tt_ok (rs := rs_r29_Exec) rfl rfl (hK cap hc) [0, 4] rfl ?_ rfl rfl rfl rfl
    rw [seg_all]; rfl
  · rw [h1, show (!mineB fn n) = false from h2, show (!k.busy) = false from h3] at hx
    have hx' : opR k m n = (k', e', m') := hx
    have hO : isOp n = true := by
      have : mineB fn n = true := by simpa using h2
      unfold mineB at this
      cases hf : (fn == 15) <;> rw [hf] at this
      · cases this
      · exact this
    have hp := priB_iff h1
    unfold opR at hx'
    clear hx h2
    refine ⟨fun g1 => ?_, fun g1 => ⟨fun g2 => ?_, fun g2 => ⟨fun g3 => ?_, fun g3 => ⟨fun g4 => ?_, fun g4 => ⟨fun g5 => ⟨fun g6 => ?_, fun g6 => ?_⟩, fun g5 => ?_⟩⟩⟩⟩⟩
    · rw [show (n == 13) = true from g1] at hx'
      refine ⟨(m, k', e', m'), ⟨rfl, rfl, ⟨hok, hp, hc⟩, hx'⟩, fun c1 hc1 => ?_⟩
      exact fin_k tt_ok (rs := rs_r29_Exec) rfl rfl (hK c1 hc1) [0, 4] rfl rfl rfl rfl rfl rfl
    · rw [show (n == 13) = false from g1, show (n == 3) = true from g2] at hx'
      refine ⟨(m, k', e', m'), ⟨rfl, rfl, ⟨hok, hc⟩, hx'⟩, fun c1 hc1 => ?_⟩
      exact fin_k tt_ok (rs := rs_r29_Exec) rfl rfl (hK c1 hc1) [0, 4] rfl rfl rfl rfl rfl rfl
    · rw [show (n == 13) = false from g1, show (n == 3) = false from g2, show (n == 57) = true from g3] at hx'
      have hx2 : appR k.clear m k.a = (k', e', m') := hx'
      obtain ⟨⟨k2, e2, m2⟩, hA⟩ : ∃ r, appR k m k.a = r := ⟨_, rfl⟩
      have hE := appR_err k m k.a
      rw [appR_clear, hA] at hx2
      rw [hA] at hE
      obtain ⟨q1, q2⟩ := Prod.mk.inj hx2
      obtain ⟨q2, q3⟩ := Prod.mk.inj q2
      dsimp only at q1 q2 q3 hE
      refine ⟨(m, k2, e2, m2), ⟨rfl, rfl, ⟨hok, hok.a, hc⟩, hA⟩, fun c1 hc1 => ⟨fun h6 => ?_, fun h6 => ?_⟩⟩
      · have h6' : (e2 != 0) = true := h6
        rcases hE with ⟨_, h⟩ | h
        · obtain ⟨w1, w2⟩ := Prod.mk.inj h
          obtain ⟨w2, w3⟩ := Prod.mk.inj w2
          rw [w1] at q1
          rw [w2] at q2
          rw [w3] at q3
          subst q1; subst q2; subst q3; subst w2
          refine WpE.into (aliasSlot 7 0 0 m.l.length cap rfl rfl) ?_
          refine fin_k tt_ok (rs := rs_r29_Exec) rfl rfl (hK cap hc) [0, 6] rfl ?_ rfl rfl rfl rfl
          rw [seg_all]; rfl
        · rw [h] at h6'; exact absurd h6' (by decide)
      · have h6' : (e2 != 0) = false := h6
        have h0 : e2 = 0 := by simpa [bne] using h6'
        subst q1; subst q2; subst q3; subst h0
        refine ⟨trivial, ?_⟩
        exact fin_k tt_ok (rs := rs_r29_Exec) rfl rfl (hK c1 hc1) [0, 4] rfl rfl rfl rfl rfl rfl
    · rw [show (n == 13) = false from g1, show (n == 3) = false from g2, show (n == 57) = false from g3, show (n == 21) = true from g4] at hx'
      refine ⟨(m, k', e', m'), ⟨rfl, rfl, hok.wptr, hc, by rw [waR_eq]; exact hx'⟩, fun c1 hc1 => ?_⟩
      exact fin_k tt_ok (rs := rs_r29_Exec) rfl rfl (hK c1 hc1) [0, 4] rfl rfl rfl rfl rfl rfl
    · rw [show (n == 13) = false from g1, show (n == 3) = false from g2, show (n == 57) = false from g3, show (n == 21) = false from g4, show (n == 85) = true from g5] at hx'
      have hx2 : steR k m = (k', e', m') := hx'
      unfold steR at hx2
      rw [show k.err = true from g6] at hx2
      refine ⟨(m, k', e', m'), ⟨rfl, rfl, hok.wptr, hc, by rw [waR_eq]; exact hx2⟩, fun c1 hc1 => ?_⟩
      exact fin_k tt_ok (rs := rs_r29_Exec) rfl rfl (hK c1 hc1) [0, 4] rfl rfl rfl rfl rfl rfl
    · rw [show (n == 13) = false from g1, show (n == 3) = false from g2, show (n == 57) = false from g3, show (n == 21) = false from g4, show (n == 85) = true from g5] at hx'
      have hx2 : steR k m = (k', e', m') := hx'
      unfold steR at hx2
      rw [show k.err = false from g6] at hx2
      cases hx2
      refine WpE.into (aliasSlot 7 0 0 m.l.length cap rfl rfl) ?_
      refine fin_k tt_ok (rs := rs_r29_Exec) rfl rfl (hK cap hc) [0, 4] rfl ?_ rfl rfl rfl rfl
      rw [seg_all]; rfl
    · rw [show (n == 13) = false from g1, show (n == 3) = false from g2, show (n == 57) = false from g3, show (n == 21) = false from g4, show (n == 85) = false from g5] at hx'
      cases hx'
      refine WpE.into (aliasSlot 7 0 0 m.l.length cap rfl rfl) ?_
      refine fin_k tt_ok (rs := rs_r29_Exec) rfl rfl (hK cap hc) [0, 4] rfl ?_ rfl rfl rfl rfl
      rw [seg_all]; rfl
noncomputable abbrev eRExec : Ent := .st (conS (P := Try.prog) (f := f_r29_Exec) fun cargs σ0 => match cargs, σ0 with
  | [.agg cs, .s (.sl 0 0 n cap), .agg [.int .u8 fn, .int .i32 o]], [.view xs] => withCore cs fun k hk => some ⟨.ex (Ram × Core × Int × Ram) fun p => .ask (n = p.1.l.length ∧ xs = bytesI p.1.l ∧ (k.ok ∧ p.1.l.length ≤ cap) ∧ exeR k p.1 fn o = p.2) (RES p.1 p.2.2.2 p.2.1 p.2.2.1), fun K h => by
      obtain ⟨⟨m, k', e', m'⟩, ⟨e1, e2, ⟨h1, h2⟩, h3⟩, h⟩ := h
      dsimp only at e1 e2 h1 h2 h3 h
      subst e1; subst e2; subst hk
      exact RExec_c k m cap fn o k' e' m' h1 h2 h3 K h⟩
  | _, _ => none)
end Go.Proofs

namespace Go.Proofs
open Go Go.Sx
set_option maxRecDepth 10000
noncomputable abbrev ctRQu : CT := [(f_r29_Valid, eRValid), (f_r29_Word, eRWord9)]
theorem ctRQu_ok : CTok Try.prog ctRQu := ⟨con_ok cal_r29_Valid _, con_ok cal_r29_Word _, trivial⟩
abbrev RQ (m : Ram) (L : List Int) (e : Int) : Out := .all Nat (fun c => L.length ≤ c ∧ (c = 0 → L = [])) fun c => .ret (.tup [.s (.sl 1 0 L.length c), .s (.int .i64 e)]) [.view (bytesI m.l), .own 21 1 c (qV L)]
set_option maxHeartbeats 1000000 in
theorem RQueue_0 (k : Core) (m : Ram) (cap : Nat) (L' : List Int) (e' : Int) (hok : k.ok) (hx : queR k m 0 = (L', e')) : Con Try.prog f_r29_Queue [.agg k.sv, .s (.sl 0 0 m.l.length cap), .s (.int .i64 0)] [.view (bytesI m.l)] (RQ m L' e') := by
  intro K hK
  have hR : queR k m 0 = bif k.f0 == NP then ([], 0) else queL queN m k.b0 k.f0 [] := by
    unfold queR
    rw [show (!priB 0) = false from rfl, cond_false, show k.fr ((0 : Int) == 1) = k.f0 from rfl, show k.bk ((0 : Int) == 1) = k.b0 from rfl]
  rw [hx] at hR
  refine enter fn_r29_Queue rfl nt_r29_Queue rfl rfl (fun φ w0 β0 F => ?_)
  refine c_run tt_ok ctRQu_ok k_r29_Queue [] 60 (by kernel_rfl) ?_
  refine ⟨fun h => absurd h (by decide), fun _ => ⟨fun h1 => ?_, fun h1 => ?_⟩⟩
  · rw [show (k.f0 == NP) = true from h1, cond_true] at hR
    cases hR
    refine WpE.into (nilSlot 6 21 1 rfl) ?_
    exact fin_k tt_ok (rs := rs_r29_Queue) rfl rfl (hK 0 ⟨Nat.le_refl _, fun _ => rfl⟩) [0, 2] rfl rfl rfl rfl rfl rfl
  · rw [show (k.f0 == NP) = false from h1, cond_false] at hR
    show WpC _ _ _ _ _
    refine WpC.into (nilSlot 8 21 1 rfl) ?_
    refine c_loop (α := Int × List Int × Nat × Nat) (fun x => I32 x.1 ∧ x.2.1.length ≤ x.2.2.1 ∧ (x.2.2.2 + x.2.1.length = 1025 ∧ x.2.1.length ≤ 1024) ∧ (L', e') = queL x.2.2.2 m k.b0 x.1 x.2.1) (fun x => x.2.2.2)
      (fun x => [(1, .t (.s (.sl 0 0 m.l.length cap)), none), (2, .t (.s (.int .i64 0)), none), (3, .t (.s (.loc 1 0)), none), (8, .t (.s (.sl 2 0 x.2.1.length x.2.2.1)), none), (9, .t (.s (.int .i32 x.1)), none)])
      (fun x => [.view (bytesI m.l), .blk 32 k.sv, .own 21 1 x.2.2.1 (qV x.2.1)]) (k.f0, [], 0, queN) ⟨hok.f0, Nat.le_refl _, ⟨queN_eq, Nat.zero_le _⟩, hR⟩ ?_ ?_
    · exact into [0, 1, 2] ⟨⟨_, rfl, rfl⟩, ⟨_, rfl, rfl⟩, ⟨_, rfl, rfl⟩, ⟨_, rfl, rfl⟩, ⟨_, rfl, rfl⟩, trivial⟩ ⟨_, rfl, rfl⟩ rfl rfl rfl rfl
    rintro ⟨w, L, c, fu⟩ ⟨hw, hLc, ⟨hf, hL4⟩, hlaw⟩
    simp only at hw hLc hf hL4 hlaw
    obtain ⟨fu, rfl⟩ : ∃ f', fu = f' + 1 := ⟨fu - 1, by omega⟩
    rw [queL] at hlaw
    have e1024 : ((L.length : Int) == 1024) = (L.length == 1024) := by
      cases h : (L.length == 1024) <;> simp at h ⊢ <;> omega
    dsimp only
    refine c_run' tt_ok ctRQu_ok k_r29_Queue [100030] 60 (by kernel_rfl) (by kernel_rfl) ?_
    refine ⟨m, ⟨rfl, rfl, hw⟩, ?_⟩
    refine ⟨.t (.s (.bool (bif !validB m w then true else L.length == 1024))), fun β => told_bl (by rw [← e1024]), rfl, ?_⟩
    refine ⟨fun h2 => ?_, fun h2 => ?_⟩
    · rw [h2] at hlaw
      cases hlaw
      refine WpE.into (nilSlot 6 21 1 rfl) ?_
      exact fin_k tt_ok (rs := rs_r29_Queue) rfl rfl (hK 0 ⟨Nat.le_refl _, fun _ => rfl⟩) [0, 3] rfl rfl rfl rfl rfl rfl
    · rw [h2, cond_false] at hlaw
      have hlen : L.length ≠ 1024 := by
        intro e
        rw [e] at h2
        cases hv : validB m w <;> rw [hv] at h2 <;> simp at h2
      refine ⟨⟨rfl, by rw [qV_len, Nat.mul_one], Nat.le_refl _, fun u hu => ?_, by simp only [maxLen]; omega, by omega⟩, fun c1 hc1 _ => ?_⟩
      · rw [List.mem_singleton.1 (List.mem_of_mem_drop (List.mem_of_mem_take hu))]; rfl
      refine ⟨fun h3 => ?_, fun h3 => ?_⟩
      · rw [show (w == k.b0) = true from h3] at hlaw
        cases hlaw
        refine fin_k tt_ok (rs := rs_r29_Queue) rfl rfl (hK c1 ⟨by simpa using hc1, fun h => by omega⟩) [0, 4] ?_ ?_ rfl rfl rfl rfl
        · rw [show (L ++ [w]).length = L.length + 1 by simp]; rfl
        · rw [qV_app]; rfl
      · rw [show (w == k.b0) = false from h3, cond_false] at hlaw
        refine ⟨m, ⟨rfl, rfl⟩, ?_⟩
        refine e_again (m.word (IntKind.i32.wrap (w + -8)), L ++ [w], c1, fu) ⟨word_I32 _ _, by simpa using hc1, ⟨by simp only [List.length_append, List.length_singleton]; omega, by simp only [List.length_append, List.length_singleton]; omega⟩, hlaw⟩ (Nat.lt_succ_self fu) (into [0, 1, 4] ⟨⟨_, rfl, rfl⟩, ⟨_, rfl, rfl⟩, ⟨_, rfl, rfl⟩, ⟨_, rfl, ?_⟩, ⟨_, rfl, rfl⟩, trivial⟩ ⟨_, rfl, ?_⟩ rfl rfl rfl rfl)
        · dsimp only; rw [show (L ++ [w]).length = L.length + 1 by simp]; rfl
        · dsimp only; rw [qV_app]; rfl
set_option maxHeartbeats 1000000 in
theorem RQueue_1 (k : Core) (m : Ram) (cap : Nat) (L' : List Int) (e' : Int) (hok : k.ok) (hx : queR k m 1 = (L', e')) : Con Try.prog f_r29_Queue [.agg k.sv, .s (.sl 0 0 m.l.length cap), .s (.int .i64 1)] [.view (bytesI m.l)] (RQ m L' e') := by
  intro K hK
  have hR : queR k m 1 = bif k.f1 == NP then ([], 0) else queL queN m k.b1 k.f1 [] := by
    unfold queR
    rw [show (!priB 1) = false from rfl, cond_false, show k.fr ((1 : Int) == 1) = k.f1 from rfl, show k.bk ((1 : Int) == 1) = k.b1 from rfl]
  rw [hx] at hR
  refine enter fn_r29_Queue rfl nt_r29_Queue rfl rfl (fun φ w0 β0 F => ?_)
  refine c_run tt_ok ctRQu_ok k_r29_Queue [] 60 (by kernel_rfl) ?_
  refine ⟨fun h => absurd h (by decide), fun _ => ⟨fun h1 => ?_, fun h1 => ?_⟩⟩
  · rw [show (k.f1 == NP) = true from h1, cond_true] at hR
    cases hR
    refine WpE.into (nilSlot 6 21 1 rfl) ?_
    exact fin_k tt_ok (rs := rs_r29_Queue) rfl rfl (hK 0 ⟨Nat.le_refl _, fun _ => rfl⟩) [0, 2] rfl rfl rfl rfl rfl rfl
  · rw [show (k.f1 == NP) = false from h1, cond_false] at hR
    show WpC _ _ _ _ _
    refine WpC.into (nilSlot 8 21 1 rfl) ?_
    refine c_loop (α := Int × List Int × Nat × Nat) (fun x => I32 x.1 ∧ x.2.1.length ≤ x.2.2.1 ∧ (x.2.2.2 + x.2.1.length = 1025 ∧ x.2.1.length ≤ 1024) ∧ (L', e') = queL x.2.2.2 m k.b1 x.1 x.2.1) (fun x => x.2.2.2)
      (fun x => [(1, .t (.s (.sl 0 0 m.l.length cap)), none), (2, .t (.s (.int .i64 1)), none), (3, .t (.s (.loc 1 0)), none), (8, .t (.s (.sl 2 0 x.2.1.length x.2.2.1)), none), (9, .t (.s (.int .i32 x.1)), none)])
      (fun x => [.view (bytesI m.l), .blk 32 k.sv, .own 21 1 x.2.2.1 (qV x.2.1)]) (k.f1, [], 0, queN) ⟨hok.f1, Nat.le_refl _, ⟨queN_eq, Nat.zero_le _⟩, hR⟩ ?_ ?_
    · exact into [0, 1, 2] ⟨⟨_, rfl, rfl⟩, ⟨_, rfl, rfl⟩, ⟨_, rfl, rfl⟩, ⟨_, rfl, rfl⟩, ⟨_, rfl, rfl⟩, trivial⟩ ⟨_, rfl, rfl⟩ rfl rfl rfl rfl
    rintro ⟨w, L, c, fu⟩ ⟨hw, hLc, ⟨hf, hL4⟩, hlaw⟩
    simp only at hw hLc hf hL4 hlaw
    obtain ⟨fu, rfl⟩ : ∃ f', fu = f' + 1 := ⟨fu - 1, by omega⟩
    rw [queL] at hlaw
    have e1024 : ((L.length : Int) == 1024) = (L.length == 1024) := by
      cases h : (L.length == 1024) <;> simp at h ⊢ <;> omega
    dsimp only
    refine c_run' tt_ok ctRQu_ok k_r29_Queue [100030] 60 (by kernel_rfl) (by kernel_rfl) ?_
    refine ⟨m, ⟨rfl, rfl, hw⟩, ?_⟩
    refine ⟨.t (.s (.bool (bif !validB m w then true else L.length == 1024))), fun β => told_bl (by rw [← e1024]), rfl, ?_⟩
    refine ⟨fun h2 => ?_, fun h2 => ?_⟩
    · rw [h2] at hlaw
      cases hlaw
      refine WpE.into (nilSlot 6 21 1 rfl) ?_
      exact fin_k tt_ok (rs := rs_r29_Queue) rfl rfl (hK 0 ⟨Nat.le_refl _, fun _ => rfl⟩) [0, 3] rfl rfl rfl rfl rfl rfl
    · rw [h2, cond_false] at hlaw
      have hlen : L.length ≠ 1024 := by
        intro e
        rw [e] at h2
        cases hv : validB m w <;> rw [hv] at h2 <;> simp at h2
      refine ⟨⟨rfl, by rw [qV_len, Nat.mul_one], Nat.le_refl _, fun u hu => ?_, by simp only [maxLen]; omega, by omega⟩, fun c1 hc1 _ => ?_⟩
      · rw [List.mem_singleton.1 (List.mem_of_mem_drop (List.mem_of_mem_take hu))]; rfl
      refine ⟨fun h3 => ?_, fun h3 => ?_⟩
      · rw [show (w == k.b1) = true from h3] at hlaw
        cases hlaw
        refine fin_k tt_ok (rs := rs_r29_Queue) rfl rfl (hK c1 ⟨by simpa using hc1, fun h => by omega⟩) [0, 4] ?_ ?_ rfl rfl rfl rfl
        · rw [show (L ++ [w]).length = L.length + 1 by simp]; rfl
        · rw [qV_app]; rfl
      · rw [show (w == k.b1) = false from h3, cond_false] at hlaw
        refine ⟨m, ⟨rfl, rfl⟩, ?_⟩
        refine e_again (m.word (IntKind.i32.wrap (w + -8)), L ++ [w], c1, fu) ⟨word_I32 _ _, by simpa using hc1, ⟨by simp only [List.length_append, List.length_singleton]; omega, by simp only [List.length_append, List.length_singleton]; omega⟩, hlaw⟩ (Nat.lt_succ_self fu) (into [0, 1, 4] ⟨⟨_, rfl, rfl⟩, ⟨_, rfl, rfl⟩, ⟨_, rfl, rfl⟩, ⟨_, rfl, ?_⟩, ⟨_, rfl, rfl⟩, trivial⟩ ⟨_, rfl, ?_⟩ rfl rfl rfl rfl)
        · dsimp only; rw [show (L ++ [w]).length = L.length + 1 by simp]; rfl
        · dsimp only; rw [qV_app]; rfl
theorem RQueue_c (k : Core) (m : Ram) (cap : Nat) (p : Int) (L' : List Int) (e' : Int) (hok : k.ok) (hx : queR k m p = (L', e')) : Con Try.prog f_r29_Queue [.agg k.sv, .s (.sl 0 0 m.l.length cap), .s (.int .i64 p)] [.view (bytesI m.l)] (RQ m L' e') := by
  have hc : p = 0 ∨ p = 1 ∨ (p ≠ 0 ∧ p ≠ 1) := by omega
  rcases hc with rfl | rfl | ⟨hp0, hp1⟩
  · exact RQueue_0 k m cap L' e' hok hx
  · exact RQueue_1 k m cap L' e' hok hx
  · have hpp : (!priB p) = true := by unfold priB; simp [hp0, hp1]
    unfold queR at hx
    rw [hpp] at hx
    cases hx
    intro K hK
    refine enter fn_r29_Queue rfl nt_r29_Queue rfl rfl (fun φ w0 β0 F => ?_)
    refine c_run tt_ok ctRQu_ok k_r29_Queue [100015] 60 (by kernel_rfl) ?_
    refine ⟨.t (.s (.bool (!priB p))), fun β => told_bl priB_not, rfl, ?_⟩
    refine ⟨fun _ => ?_, fun h => absurd (hpp.symm.trans h) (by decide)⟩
    refine WpE.into (nilSlot 6 21 1 rfl) ?_
    exact fin_k tt_ok (rs := rs_r29_Queue) rfl rfl (hK 0 ⟨Nat.le_refl _, fun _ => rfl⟩) [0, 2] rfl rfl rfl rfl rfl rfl
noncomputable abbrev eRQueue : Ent := .st (conS (P := Try.prog) (f := f_r29_Queue) fun cargs σ0 => match cargs, σ0 with
  | [.agg cs, .s (.sl 0 0 n cap), .s (.int .i64 d)], [.view xs] => withCore cs fun k hk => some ⟨.ex (Ram × List Int × Int) fun p => .ask (n = p.1.l.length ∧ xs = bytesI p.1.l ∧ k.ok ∧ queR k p.1 d = p.2) (RQ p.1 p.2.1 p.2.2), fun K h => by
      obtain ⟨⟨m, L', e'⟩, ⟨e1, e2, h1, h2⟩, h⟩ := h
      dsimp only at e1 e2 h1 h2 h
      subst e1; subst e2; subst hk
      exact RQueue_c k m cap d L' e' h1 h2 K h⟩
  | _, _ => none)
noncomputable abbrev ctRSd : CT := [(f_r29_Nobody, .pure spRNobody)]
theorem ctRSd_ok : CTok Try.prog ctRSd := ⟨ceRNobody, trivial⟩
set_option maxHeartbeats 1000000 in
theorem RSettled_c (k : Core) (r : Bool) (hok : k.ok) (hx : satB k = r) : Con Try.prog f_r29_Settled [.agg k.sv] [] (.ret (.t (.s (.bool r))) []) := by
  intro K hK
  unfold satB at hx
  refine enter fn_r29_Settled rfl nt_r29_Settled rfl rfl (fun φ w0 β0 F => ?_)
  refine c_run tt_ok ctRSd_ok k_r29_Settled [100031, 100082, 100096] 90 (by kernel_rfl) ?_
  have hbad : (bif bif bif bif (bif k.pri != 0 then k.pri != 1 else false) then true else decide (k.ticks < 0) then true else decide (k.ticks > 63) then true else decide (k.slice < 0) then true else decide (k.sslice < 0)) = badS k := by
    unfold badS; rw [priB_not, or1B hok.pri]
  refine ⟨.t (.s (.bool (badS k))), fun β => told_bl hbad, rfl, ?_⟩
  refine ⟨fun h1 => ?_, fun h1 => ⟨fun _ => trivial, fun h2 => ?_, fun h2 => ⟨fun h3 => ?_, fun h3 => ?_⟩⟩⟩
  · rw [h1] at hx
    cases hx
    exact fin_k tt_ok (rs := rs_r29_Settled) rfl rfl hK [] rfl rfl rfl rfl rfl rfl
  all_goals rw [h1] at hx
  all_goals obtain ⟨A, hA⟩ : ∃ A, (bif !k.busy then !coreEq k k.nobody else false) = A := ⟨_, rfl⟩
  all_goals obtain ⟨B, hB⟩ : ∃ B, (bif !k.sis then !savZ k else false) = B := ⟨_, rfl⟩
  · have h2' : (bif (bif !k.busy then !coreEq k k.nobody else false) then true else (bif !k.sis then !savZ k else false)) = true := h2
    rw [hA, hB] at h2' hx
    have hr : r = false := by rw [← hx]; cases A <;> cases B <;> first | rfl | (exfalso; revert h2'; decide)
    subst hr
    exact fin_k tt_ok (rs := rs_r29_Settled) rfl rfl hK [] rfl rfl rfl rfl rfl rfl
  all_goals have h2' : (bif (bif !k.busy then !coreEq k k.nobody else false) then true else (bif !k.sis then !savZ k else false)) = false := h2
  all_goals rw [hA, hB] at h2' hx
  all_goals have hA0 : A = false := by cases A <;> cases B <;> first | rfl | (exfalso; revert h2'; decide)
  all_goals have hB0 : B = false := by cases A <;> cases B <;> first | rfl | (exfalso; revert h2'; decide)
  all_goals rw [hA0, hB0] at hx
  · rw [show k.halted = true from h3] at hx
    cases hx
    exact fin_k tt_ok (rs := rs_r29_Settled) rfl rfl hK [] rfl rfl rfl rfl rfl rfl
  · rw [show k.halted = false from h3] at hx
    have hp : k.pri = 0 ∨ k.pri = 1 := by
      unfold badS at h1
      rw [or1B hok.pri] at h1
      cases hq : priB k.pri with
      | true => exact priB_iff (by rw [hq]; rfl)
      | false => rw [hq] at h1; simp at h1
    obtain ⟨C, hC⟩ : ∃ C, (bif (bif bif k.busy then k.pri == 1 else false then k.f0 != NP else false) then true else bif k.sis then (bif !k.busy then true else k.pri == 1) else false) = C := ⟨_, rfl⟩
    obtain ⟨D, hD⟩ : ∃ D, (bif k.busy then true else bif k.f0 == NP then k.f1 == NP else false) = D := ⟨_, rfl⟩
    refine ⟨.t (.s (.bool C)), fun β => told_bl hC, rfl, ?_⟩
    have hr : r = (!C && D) := by
      rw [← hx, ← hC, ← hD]
      unfold Core.high Core.low bne
      rcases hp with e | e <;> rw [e] <;> cases k.busy <;> cases k.sis <;> cases (k.f0 == NP) <;> cases (k.f1 == NP) <;> rfl
    refine ⟨fun h4 => ?_, fun h4 => ?_⟩
    · rw [hr, h4] at hK
      exact fin_k tt_ok (rs := rs_r29_Settled) rfl rfl hK [] rfl rfl rfl rfl rfl rfl
    · rw [hr, h4] at hK
      refine ⟨.t (.s (.bool D)), fun β => told_bl hD, rfl, ?_⟩
      exact fin_k tt_ok (rs := rs_r29_Settled) rfl rfl hK [] rfl rfl rfl rfl rfl rfl
def spRSettled : List TV → Option (Prop × FV)
  | [.agg cs] => withCore cs fun k _ => some (k.ok, .t (.s (.bool (satB k))))
  | _ => none
theorem ceRSettled : CEok Try.prog f_r29_Settled spRSettled := ⟨cal_r29_Settled, fun args p v h hp => by
  unfold spRSettled at h; split at h
  · obtain ⟨k, hk, h⟩ := withCore_some h
    cases h; subst hk; exact (RSettled_c _ _ hp rfl).pure
  · cases h⟩
def spSettled : List TV → Option (Prop × FV)
  | [.agg cs] => withCore cs fun k _ => some (True, .t (.s (.bool (satB k))))
  | _ => none
theorem ceSettled : CEok Try.prog f_sched_Settled spSettled := ⟨cal_sched_Settled, fun args p v h hp => by
  unfold spSettled at h; split at h
  · obtain ⟨k, hk, h⟩ := withCore_some h
    cases h; subst hk; exact (Settled_c _ _ rfl).pure
  · cases h⟩
def spMine : List TV → Option (Prop × FV)
  | [.agg [.int .u8 fn, .int .i32 n]] => some (True, .t (.s (.bool (mineB fn n))))
  | _ => none
theorem ceMine : CEok Try.prog f_sched_Mine spMine := ⟨cal_sched_Mine, fun args p v h hp => by
  unfold spMine at h; split at h
  · cases h; exact (Mine_c _ _).pure
  · cases h⟩
end Go.Proofs
