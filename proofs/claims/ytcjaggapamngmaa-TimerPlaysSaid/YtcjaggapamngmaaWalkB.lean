/- Memories as a whole: words read and stored, without cases. -/
import Derived.Test.YtcjaggapamngmaaWalkA
import Derived.Test.YtcjaggapamngmaaSxC

namespace Go.Proofs
open Go Go.Sx
set_option maxRecDepth 10000
structure Ram where
  l : List Int
  lo : 1024 ≤ l.length
  hi : l.length ≤ 65536
  al : l.length % 4 = 0
  byt : ∀ b ∈ l, 0 ≤ b ∧ b < 256
theorem Ram.ext {m m' : Ram} (h : m.l = m'.l) : m = m' := by cases m; cases m'; cases h; rfl
def wBad (m : Ram) (a : Int) : Bool := spanBad m.l.length (wAt a) 4
theorem wBad_nat {m : Ram} {a : Int} (h : wBad m a = false) : (ofAt (wAt a)).toNat + 4 ≤ m.l.length := by
  unfold wBad spanBad at h
  have := m.lo
  by_cases h' : ofAt (wAt a) ≥ m.l.length
  · simp [h'] at h
  · simp [h'] at h; omega
def Ram.word (m : Ram) (a : Int) : Int := bif wBad m a then 0 else getW m.l (ofAt (wAt a)).toNat
def Ram.err (m : Ram) (a : Int) : Int := bif wBad m a then 4 else 0
def Ram.set (m : Ram) (a v : Int) : Ram := match h : wBad m a with
  | true => m
  | false => ⟨setW m.l (ofAt (wAt a)).toNat v, by rw [show (setW m.l (ofAt (wAt a)).toNat v).length = m.l.length from stW_length (wBad_nat h) 4 (by decide)]; exact m.lo,
      by rw [show (setW m.l (ofAt (wAt a)).toNat v).length = m.l.length from stW_length (wBad_nat h) 4 (by decide)]; exact m.hi,
      by rw [show (setW m.l (ofAt (wAt a)).toNat v).length = m.l.length from stW_length (wBad_nat h) 4 (by decide)]; exact m.al, setW_bytes (wBad_nat h) m.byt⟩
theorem set_bad {m : Ram} {a : Int} (h : wBad m a = true) (v : Int) : m.set a v = m := by unfold Ram.set; split <;> simp_all
theorem set_ok {m : Ram} {a : Int} (h : wBad m a = false) (v : Int) : (m.set a v).l = setW m.l (ofAt (wAt a)).toNat v := by unfold Ram.set; split <;> simp_all
theorem set_len (m : Ram) (a v : Int) : (m.set a v).l.length = m.l.length := by
  cases h : wBad m a with
  | true => rw [set_bad h]
  | false => rw [set_ok h]; exact stW_length (wBad_nat h) 4 (by decide)
theorem set_wBad (m : Ram) (a v b : Int) : wBad (m.set a v) b = wBad m b := by unfold wBad; rw [set_len]
theorem set_err (m : Ram) (a v b : Int) : (m.set a v).err b = m.err b := by unfold Ram.err; rw [set_wBad]
theorem I32_Wd (n : Int) : I32 (Wd n) := by unfold I32 Wd; omega
theorem I32_wrap (n : Int) : I32 (IntKind.i32.wrap n) := by rw [wrapW]; exact I32_Wd n
theorem word_I32 (m : Ram) (a : Int) : I32 (m.word a) := by
  unfold Ram.word; cases wBad m a
  · exact I32_Wd _
  · unfold I32; simp
theorem Word_t (m : Ram) (a : Int) (ha : I32 a) : Con Try.prog f_mem_Mem_Word [.s (.loc 0 0), .s (.int .i32 a)] [mBox m.l.length, mOwn m.l]
    (.ret (.tup [.s (.int .i32 (m.word a)), .s (.int .i64 (m.err a))]) [mBox m.l.length, mOwn m.l]) := by
  intro K hK
  have h0 := m.lo
  replace hK : K _ _ := hK
  refine Word_c m.l a m.hi ha (by omega) m.byt K ⟨fun h => ?_, fun h => ?_⟩ <;> (show K _ _) <;> simpa [Ram.word, Ram.err, wBad, h] using hK
theorem SetWord_t (m : Ram) (a v : Int) (ha : I32 a) : Con Try.prog f_mem_Mem_SetWord [.s (.loc 0 0), .s (.int .i32 a), .s (.int .i32 v)] [mBox m.l.length, mOwn m.l]
    (.ret (.t (.s (.int .i64 (m.err a)))) [mBox (m.set a v).l.length, mOwn (m.set a v).l]) := by
  intro K hK
  have h0 := m.lo
  have hl := set_len m a v
  replace hK : K _ _ := hK
  refine SetWord_c m.l a v m.hi ha (by omega) K ⟨fun h => ?_, fun h => ?_⟩
  · have : wBad m a = true := h
    rw [set_bad this] at hK
    show K _ _
    simpa [Ram.err, this] using hK
  · have h' : wBad m a = false := h
    rw [hl] at hK
    have e := set_ok h' v
    rw [mOwn, hl, e] at hK
    show K _ _
    simpa [Ram.err, h'] using hK
noncomputable abbrev eWordT : Ent := .st (conS (P := Try.prog) (f := f_mem_Mem_Word) fun cargs σ0 => match cargs, σ0 with
  | [.s (.loc 0 0), .s (.int .i32 a)], [.blk 33 [.sl 1 0 n n'], .own 5 1 c xs] => some ⟨.ex Ram fun m => .ask (n = m.l.length ∧ n' = m.l.length ∧ c = m.l.length ∧ xs = bytesI m.l ∧ I32 a)
      (.ret (.tup [.s (.int .i32 (m.word a)), .s (.int .i64 (m.err a))]) [mBox m.l.length, mOwn m.l]), fun K h => by
      obtain ⟨m, ⟨e1, e2, e3, e4, h1⟩, h⟩ := h
      subst e1; subst e2; subst e3; subst e4
      exact Word_t m a h1 K h⟩
  | _, _ => none)
noncomputable abbrev eSetWordT : Ent := .st (conS (P := Try.prog) (f := f_mem_Mem_SetWord) fun cargs σ0 => match cargs, σ0 with
  | [.s (.loc 0 0), .s (.int .i32 a), .s (.int .i32 v)], [.blk 33 [.sl 1 0 n n'], .own 5 1 c xs] => some ⟨.ex Ram fun m => .ask (n = m.l.length ∧ n' = m.l.length ∧ c = m.l.length ∧ xs = bytesI m.l ∧ I32 a)
      (.ret (.t (.s (.int .i64 (m.err a)))) [mBox (m.set a v).l.length, mOwn (m.set a v).l]), fun K h => by
      obtain ⟨m, ⟨e1, e2, e3, e4, h1⟩, h⟩ := h
      subst e1; subst e2; subst e3; subst e4
      exact SetWord_t m a v h1 K h⟩
  | _, _ => none)
noncomputable abbrev eSizeT : Ent := .st (conS (P := Try.prog) (f := f_mem_Mem_Size) fun cargs σ0 => match cargs, σ0 with
  | [.s (.loc 0 0)], [.blk 33 [.sl 1 0 n n'], .own 5 1 c xs] => some ⟨.ret (.t (.s (.int .i64 (n : Int)))) [.blk 33 [.sl 1 0 n n'], .own 5 1 c xs], fun K h => Size_c n n' c xs K h⟩
  | _, _ => none)
end Go.Proofs

namespace Go.Proofs
open Go Go.Sx
set_option maxRecDepth 10000
theorem one_seg {ys : List Value} {a b : Nat} (h : ∀ u ∈ ys, u.oneCell' = true) : ∀ u ∈ seg ys a b, u.oneCell' = true := fun u hu => h u (List.mem_of_mem_drop (List.mem_of_mem_take hu))
theorem put_c (l x : List Int) (cap cb : Nat) (i : Nat) (hi : i + x.length ≤ l.length) (hn : l.length ≤ 65536) (hc : l.length ≤ cap) : Con Try.prog f_r03_put [.s (.sl 0 0 l.length cap), .s (.int .i64 (i : Int)), .s (.sl 1 0 x.length cb)] [.view (bytesI l), .own 5 1 cb (bytesI x)]
    (.all Nat (fun c => l.length ≤ c) fun c => .ret (.t (.s (.sl 2 0 l.length c))) [.view (bytesI l), .view (bytesI x), .own 5 1 c (bytesI (setL l i x))]) := by
  intro K hK
  refine enter fn_r03_put rfl nt_r03_put rfl rfl (fun φ w0 β0 F => ?_)
  refine c_freeze 1 rfl rfl ?_
  refine c_run tt_ok (ct := []) trivial k_r03_put [] 60 (by kernel_rfl) ?_
  refine ⟨0, i, ⟨_, _, rfl, rfl, rfl, rfl⟩, ⟨by omega, by omega⟩, ?_⟩
  refine ⟨⟨by simp [seg]; omega, one_seg (one_seg (bytesI_one _)), by simp only [maxLen]; omega, by omega⟩, fun c1 h1 h1' => ?_⟩
  refine ⟨⟨rfl, by simp [seg]; omega, by simp, one_seg (bytesI_one _), by simp only [maxLen]; omega, by omega⟩, fun c2 h2 h2' => ?_⟩
  refine ⟨i + x.length, l.length, ⟨_, _, rfl, rfl, ?_, rfl⟩, ⟨by omega, by omega⟩, ?_⟩
  · show IntKind.i64.wrap ((i : Int) + (x.length : Int)) = _
    rw [wrap64 (by omega) (by omega)]; omega
  refine ⟨⟨rfl, by simp [seg]; omega, by simp [seg], one_seg (one_seg (bytesI_one _)), by simp only [maxLen]; omega, by omega⟩, fun c3 h3 h3' => ?_⟩
  refine fin_k tt_ok (rs := rs_r03_put) rfl rfl (hK c3 (by omega)) [0, 1, 7] ?_ ?_ rfl rfl rfl rfl
  · rw [show i - 0 + x.length + (l.length - (i + x.length)) = l.length by omega]; rfl
  · have e : seg (seg (bytesI l) (0 + 0 * 1) ((i - 0) * 1)) 0 ((i - 0) * 1) ++ seg (bytesI x) 0 (x.length * 1) ++ seg (seg (bytesI l) (0 + (i + x.length) * 1) ((l.length - (i + x.length)) * 1)) 0 ((l.length - (i + x.length)) * 1) = bytesI (setL l i x) := by
      simp only [Nat.mul_one, Nat.add_zero, Nat.zero_add, Nat.sub_zero, seg_bytesI, List.drop_zero, setL, bytesI_append, List.take_take, Nat.min_self, List.take_length]
      rw [List.take_of_length_le (l := List.drop (i + x.length) l) (by simp)]
    simp only [pickL, List.getElem?_cons_zero, List.getElem?_cons_succ]
    rw [e]; rfl
noncomputable abbrev ePut : Ent := .st (conS (P := Try.prog) (f := f_r03_put) fun cargs σ0 => match cargs, σ0 with
  | [.s (.sl 0 0 n cap), .s (.int .i64 i), .s (.sl 1 0 k cb)], [.view ys, .own 5 1 cb' xs] => some ⟨.ex (List Int × List Int × Nat) fun p => .ask (ys = bytesI p.1 ∧ n = p.1.length ∧ xs = bytesI p.2.1 ∧ k = p.2.1.length ∧ cb' = cb ∧ i = (p.2.2 : Int) ∧ p.2.2 + p.2.1.length ≤ p.1.length ∧ p.1.length ≤ 65536 ∧ p.1.length ≤ cap)
      (.all Nat (fun c => p.1.length ≤ c) fun c => .ret (.t (.s (.sl 2 0 p.1.length c))) [.view (bytesI p.1), .view (bytesI p.2.1), .own 5 1 c (bytesI (setL p.1 p.2.2 p.2.1))]), fun K h => by
      obtain ⟨⟨l, x, j⟩, ⟨e1, e2, e3, e4, e5, e6, h1, h2, h3⟩, h⟩ := h
      subst e1; subst e2; subst e3; subst e4; subst e5; subst e6
      exact put_c l x cap cb' j h1 h2 h3 K h⟩
  | _, _ => none)
noncomputable abbrev eFour : Ent := .st (conS (P := Try.prog) (f := f_r03_Four) fun cargs σ0 => match cargs, σ0 with
  | [.s (.int .i32 v)], [] => some ⟨.ret (.t (.s (.sl 0 0 4 4))) [.own 5 1 4 (bytesI [byK v 0, byK v 1, byK v 2, byK v 3])], fun K h => Four_c v K h⟩
  | _, _ => none)
noncomputable abbrev ctRS : CT := [(f_r03_Index, .pure spIndex), (f_r03_Lies, .pure spLies), (f_r03_put, ePut), (f_r03_Four, eFour)]
theorem ctRS_ok : CTok Try.prog ctRS := ⟨ceIndex, ceLies, con_ok cal_r03_put _, con_ok cal_r03_Four _, trivial⟩
theorem lies_wBad {m : Ram} {a : Int} (_ : I32 a) : liesB m.l.length a 1 = !wBad m a := by
  rw [lies_span _ _ _ (by decide)]
  congr 1
  have := m.al
  have := m.lo
  unfold wBad spanBad
  have e1 : (decide (ofAt a ≥ m.l.length)) = decide (ofAt (wAt a) ≥ m.l.length) := by
    congr 1
    unfold ofAt wAt
    apply propext; constructor <;> intro h <;> omega
  rw [e1]
  cases hd : decide (ofAt (wAt a) ≥ m.l.length)
  · simp only [cond_false]
    congr 1
    have := of_decide_eq_false hd
    unfold ofAt wAt at *
    apply propext; constructor <;> intro h <;> omega
  · rfl
theorem setW_four {l : List Int} {i : Nat} (v : Int) (h : i + 4 ≤ l.length) : setL l i [byK v 0, byK v 1, byK v 2, byK v 3] = setW l i v := by
  apply List.ext_getElem?
  intro j
  have hl : (setW l i v).length = l.length := stW_length h 4 (by decide)
  have hl' : (setL l i [byK v 0, byK v 1, byK v 2, byK v 3]).length = l.length := setL_length (by simpa using h)
  rcases Nat.lt_or_ge j l.length with hj | hj
  · have e := stW_get (v := v) h 4 (by decide) j
    rw [show stW l i v 4 = setW l i v from rfl] at e
    have e2 : (setL l i [byK v 0, byK v 1, byK v 2, byK v 3]).getD j 0 = if i ≤ j ∧ j < i + 4 then byK v (j - i) else l.getD j 0 := by
      unfold setL
      simp only [List.getD_eq_getElem?_getD]
      by_cases h1 : j < i
      · rw [List.append_assoc, List.getElem?_append_left (by simp; omega), List.getElem?_take_of_lt h1, if_neg (by omega)]
      · by_cases h2 : j < i + 4
        · rw [List.append_assoc, List.getElem?_append_right (by simp; omega), List.getElem?_append_left (by simp; omega), if_pos (by omega)]
          have hm : min i l.length = i := by omega
          simp only [List.length_take, hm]
          obtain ⟨k, hk, rfl⟩ : ∃ k, k < 4 ∧ j = i + k := ⟨j - i, by omega, by omega⟩
          rw [Nat.add_sub_cancel_left]
          match k, hk with
          | 0, _ => rfl
          | 1, _ => rfl
          | 2, _ => rfl
          | 3, _ => rfl
        · rw [List.getElem?_append_right (by simp; omega), if_neg (by omega)]
          simp only [List.length_append, List.length_take, List.length_cons, List.length_nil, List.getElem?_drop]
          congr 2
          omega
    rw [← e] at e2
    simpa [List.getD_eq_getElem?_getD, hl, hl', hj] using e2
  · rw [List.getElem?_eq_none (by omega), List.getElem?_eq_none (by omega)]
theorem RSetWord_t (m : Ram) (cap : Nat) (a v : Int) (ha : I32 a) (hc : m.l.length ≤ cap) : Con Try.prog f_r03_SetWord [.s (.sl 0 0 m.l.length cap), .s (.int .i32 a), .s (.int .i32 v)] [.view (bytesI m.l)]
    (.all Nat (fun c => m.l.length ≤ c) fun c => .ret (.tup [.s (.sl 1 0 (m.set a v).l.length c), .s (.int .i64 (m.err a))]) [.view (bytesI m.l), .view (bytesI (m.set a v).l)]) := by
  intro K hK
  have hn := m.hi
  have h0 := m.lo
  refine enter fn_r03_SetWord rfl nt_r03_SetWord rfl rfl (fun φ w0 β0 F => ?_)
  refine c_run tt_ok ctRS_ok k_r03_SetWord [] 60 (by kernel_rfl) ?_
  refine ⟨⟨by omega, by omega, ha⟩, fun h => ?_, fun h => ?_⟩
  · have hb : wBad m a = true := by simpa [lies_wBad ha] using h
    refine WpE.into (aliasSlot 6 0 0 m.l.length cap rfl rfl) ?_
    have h1 := hK cap hc
    rw [set_bad hb] at h1
    refine fin_k tt_ok (rs := rs_r03_SetWord) rfl rfl h1 [0, 1] ?_ ?_ rfl rfl rfl rfl
    · rw [show m.err a = 4 by simp [Ram.err, hb]]; rfl
    · have e : seg (bytesI m.l) 0 m.l.length = bytesI m.l := by rw [seg_bytesI, List.drop_zero, List.take_length]
      rw [e]; rfl
  · have hb : wBad m a = false := by simpa [lies_wBad ha] using h
    have hw := wBad_nat hb
    have hi := spanBad_i ha (k := 1) (n := m.l.length) (by have := lies_span m.l.length a 1 (by decide); rw [lies_wBad ha, hb] at this; simpa using this.symm)
    have ei : IntKind.i64.wrap (ofAt a - (ofAt a).tmod 4) = ((ofAt (wAt a)).toNat : Int) := by
      rw [(tmod4 _).1 hi.1, wrap64 (by omega) (by omega)]; unfold ofAt wAt at *; omega
    refine ⟨ha, (m.l, [byK v 0, byK v 1, byK v 2, byK v 3], (ofAt (wAt a)).toNat), ⟨rfl, rfl, rfl, rfl, rfl, ei, hw, hn, hc⟩, fun c h1 => ?_⟩
    show WpE _ _ _ _ _
    refine e_freeze 2 rfl rfl ?_
    have h2 := hK c h1
    rw [set_len, set_ok hb] at h2
    refine fin_k tt_ok (rs := rs_r03_SetWord) rfl rfl h2 [0, 2] ?_ ?_ rfl rfl rfl rfl
    · rw [show m.err a = 0 by simp [Ram.err, hb]]; rfl
    · have e : setL m.l (ofAt (wAt a)).toNat [byK v 0, byK v 1, byK v 2, byK v 3] = setW m.l (ofAt (wAt a)).toNat v := setW_four v hw
      simp only [pickL, List.getElem?_cons_zero, List.getElem?_cons_succ]
      rw [e]; rfl
theorem RWord_t (m : Ram) (cap : Nat) (a : Int) (ha : I32 a) : Con Try.prog f_r03_Word [.s (.sl 0 0 m.l.length cap), .s (.int .i32 a)] [.view (bytesI m.l)]
    (.ret (.tup [.s (.int .i32 (m.word a)), .s (.int .i64 (m.err a))]) [.view (bytesI m.l)]) := by
  intro K hK
  replace hK : K _ _ := hK
  refine RWord_c m.l cap a m.hi m.al ha m.byt K ⟨fun h => ?_, fun h => ?_⟩
  · have hb : wBad m a = false := by simpa [lies_wBad ha] using h
    show K _ _
    simpa [Ram.word, Ram.err, hb] using hK
  · have hb : wBad m a = true := by simpa [lies_wBad ha] using h
    show K _ _
    simpa [Ram.word, Ram.err, hb] using hK
noncomputable abbrev eRWordT : Ent := .st (conS (P := Try.prog) (f := f_r03_Word) fun cargs σ0 => match cargs, σ0 with
  | [.s (.sl 0 0 n cap), .s (.int .i32 a)], [.view xs] => some ⟨.ex Ram fun m => .ask (n = m.l.length ∧ xs = bytesI m.l ∧ I32 a)
      (.ret (.tup [.s (.int .i32 (m.word a)), .s (.int .i64 (m.err a))]) [.view (bytesI m.l)]), fun K h => by
      obtain ⟨m, ⟨e1, e2, h1⟩, h⟩ := h
      subst e1; subst e2
      exact RWord_t m cap a h1 K h⟩
  | _, _ => none)
noncomputable abbrev eRSetWordT : Ent := .st (conS (P := Try.prog) (f := f_r03_SetWord) fun cargs σ0 => match cargs, σ0 with
  | [.s (.sl 0 0 n cap), .s (.int .i32 a), .s (.int .i32 v)], [.view xs] => some ⟨.ex Ram fun m => .ask (n = m.l.length ∧ xs = bytesI m.l ∧ I32 a ∧ m.l.length ≤ cap)
      (.all Nat (fun c => m.l.length ≤ c) fun c => .ret (.tup [.s (.sl 1 0 (m.set a v).l.length c), .s (.int .i64 (m.err a))]) [.view (bytesI m.l), .view (bytesI (m.set a v).l)]), fun K h => by
      obtain ⟨m, ⟨e1, e2, h1, h2⟩, h⟩ := h
      subst e1; subst e2
      exact RSetWord_t m cap a v h1 h2 K h⟩
  | _, _ => none)
end Go.Proofs

namespace Go.Proofs
open Go Go.Sx
set_option maxRecDepth 10000
theorem and3_i32 (v : Int) : bits .and .i32 v 3 = v % 4 := by
  have e : bits .and .i32 v 3 = IntKind.i32.wrap ((BitVec.ofInt 32 v &&& BitVec.ofInt 32 3).toNat : Int) := rfl
  have hn : ∀ i, i < 32 → (BitVec.ofInt 32 3).getLsbD i = decide (i < 2) := by decide
  have e1 : BitVec.ofInt 32 v &&& BitVec.ofInt 32 3 = ((BitVec.ofInt 32 v).setWidth 2).setWidth 32 := by
    apply BitVec.eq_of_getLsbD_eq
    intro i hi
    rw [BitVec.getLsbD_and, hn i hi]
    simp only [BitVec.getLsbD_setWidth]
    by_cases h2 : i < 2 <;> simp [h2, hi]
  have e2 : ((((BitVec.ofInt 32 v).setWidth 2).setWidth 32).toNat : Int) = v % 4 := by
    rw [BitVec.toNat_setWidth, BitVec.toNat_setWidth, BitVec.toNat_ofInt]
    have : ((2 ^ 32 : Nat) : Int) = 4294967296 := rfl
    rw [this]; omega
  rw [e, e1, e2, IntKind.wrap_i32]; omega
noncomputable abbrev ctSz : CT := [(f_mem_Mem_Size, eSizeT)]
theorem ctSz_ok : CTok Try.prog ctSz := ⟨con_ok cal_mem_Mem_Size _, trivial⟩
def validB (m : Ram) (w : Int) : Bool := bif bif w % 4 == 0 then decide (ofAt w ≥ 20) else false then decide (ofAt w + 4 ≤ m.l.length) else false
theorem valid_c (m : Ram) (w : Int) (hw : I32 w) : Con Try.prog f_sched_valid [.s (.loc 0 0), .s (.int .i32 w)] [mBox m.l.length, mOwn m.l] (.ret (.t (.s (.bool (validB m w)))) [mBox m.l.length, mOwn m.l]) := by
  intro K hK
  refine enter fn_sched_valid rfl nt_sched_valid rfl rfl (fun φ w0 β0 F => ?_)
  refine c_run tt_ok ctSz_ok k_sched_valid [] 60 (by kernel_rfl) ?_
  have e : (bif bits .and .i32 w 3 == 0 then decide (IntKind.i64.wrap (IntKind.i64.wrap w - -2147483648) ≥ 20) else false) = (bif w % 4 == 0 then decide (ofAt w ≥ 20) else false) := by
    unfold I32 at hw
    rw [and3_i32, wrap64 (n := w) (by omega) (by omega), wrap64 (by omega) (by omega)]; rfl
  have hn := m.hi
  refine ⟨fun h => ?_, fun h => ?_⟩
  · refine fin_k tt_ok (rs := rs_sched_valid) rfl rfl hK [0, 1] (t1b ?_) rfl rfl rfl rfl rfl
    rw [e]
    unfold validB
    rw [e] at h
    rw [h]
    unfold I32 at hw
    rw [wrap64 (n := w) (by omega) (by omega), wrap64 (n := w - -2147483648) (by omega) (by omega), wrap64 (by omega) (by omega)]; rfl
  · have h' : (bif w % 4 == 0 then decide (ofAt w ≥ 20) else false) = false := by rw [← e]; exact h
    refine ⟨fun h' => absurd (h.symm.trans h') (by decide), fun _ => ⟨h, ?_⟩⟩
    refine fin_k tt_ok (rs := rs_sched_valid) rfl rfl hK [0, 1] ?_ rfl rfl rfl rfl rfl
    refine t1b ?_
    unfold validB
    rw [h']; rfl
noncomputable abbrev eValid : Ent := .st (conS (P := Try.prog) (f := f_sched_valid) fun cargs σ0 => match cargs, σ0 with
  | [.s (.loc 0 0), .s (.int .i32 w)], [.blk 33 [.sl 1 0 n n'], .own 5 1 c xs] => some ⟨.ex Ram fun m => .ask (n = m.l.length ∧ n' = m.l.length ∧ c = m.l.length ∧ xs = bytesI m.l ∧ I32 w)
      (.ret (.t (.s (.bool (validB m w)))) [mBox m.l.length, mOwn m.l]), fun K h => by
      obtain ⟨m, ⟨e1, e2, e3, e4, h1⟩, h⟩ := h
      subst e1; subst e2; subst e3; subst e4
      exact valid_c m w h1 K h⟩
  | _, _ => none)
noncomputable abbrev ctWt : CT := [(f_sched_none, in_sched_none ctSz), (f_sched_valid, eValid), (f_mem_Mem_SetWord, eSetWordT), (f_sched_nobody, in_sched_nobody [])]
theorem ctWt_ok : CTok Try.prog ctWt := ⟨in_sched_none_ok ctSz_ok, con_ok cal_sched_valid _, con_ok cal_mem_Mem_SetWord _, in_sched_nobody_ok (ct := []) trivial, trivial⟩
def Core.nobody (k : Core) : Core := { k with a := 0, b := 0, c := 0, iptr := 0, wptr := 0, pri := 0, slice := 0, err := false, busy := false }
def waitE (k : Core) (m : Ram) : Int := bif !k.busy then 8 else bif !validB m k.wptr then 4 else 0
def waitK (k : Core) (m : Ram) : Core := kSel (waitE k m == 0) k.nobody .zero
def waitM (k : Core) (m : Ram) : Ram := bif waitE k m == 0 then m.set (IntKind.i32.wrap (k.wptr + -4)) k.iptr else m
theorem Wait_c (k : Core) (m : Ram) (hw : I32 k.wptr) : Con Try.prog f_sched_Wait [.agg k.sv, .s (.loc 0 0)] [mBox m.l.length, mOwn m.l]
    (.ret (.tup [.agg (waitK k m).sv, .s (.int .i64 (waitE k m))]) [mBox (waitM k m).l.length, mOwn (waitM k m).l]) := by
  intro K hK
  refine enter fn_sched_Wait rfl nt_sched_Wait rfl rfl (fun φ w0 β0 F => ?_)
  refine c_run tt_ok ctWt_ok k_sched_Wait [] 60 (by kernel_rfl) ?_
  refine ⟨fun h => ?_, fun _ => ⟨fun h => ?_, fun h => ?_⟩⟩
  · exfalso; have h0 := m.lo; have := of_decide_eq_true h; omega
  · rw [show waitE k m = 8 by simp only [waitE, h, cond_true], show waitM k m = m by simp [waitM, waitE, h], show waitK k m = .zero by simp [waitK, waitE, h, kSel_f]] at hK
    exact fin_k tt_ok (rs := rs_sched_Wait) rfl rfl hK [0, 1] rfl rfl rfl rfl rfl rfl
  · refine ⟨m, ⟨rfl, rfl, rfl, rfl, hw⟩, fun h2 => ?_, fun h2 => ?_⟩
    · rw [show waitE k m = 4 by simp only [waitE, h, h2, cond_true, cond_false], show waitM k m = m by simp [waitM, waitE, h, h2], show waitK k m = .zero by simp [waitK, waitE, h, h2, kSel_f]] at hK
      exact fin_k tt_ok (rs := rs_sched_Wait) rfl rfl hK [0, 1] rfl rfl rfl rfl rfl rfl
    · rw [show waitE k m = 0 by simp only [waitE, h, h2, cond_false], show waitM k m = m.set (IntKind.i32.wrap (k.wptr + -4)) k.iptr by simp [waitM, waitE, h, h2], show waitK k m = k.nobody by simp [waitK, waitE, h, h2, kSel_t]] at hK
      refine ⟨m, ⟨rfl, rfl, rfl, rfl, I32_wrap _⟩, ?_⟩
      exact fin_k tt_ok (rs := rs_sched_Wait) rfl rfl hK [0, 1] rfl rfl rfl rfl rfl rfl
def wsp (d : Int) : Int := d - d % 4
theorem wsp_I32 {d : Int} (h : I32 d) : I32 (wsp d) := by unfold I32 wsp at *; omega
def intB (ch : Int) : Bool := decide (wsp ch ≥ -2147483616)
def spInternal : List TV → Option (Prop × FV)
  | [.s (.int .i32 ch)] => some (I32 ch, .t (.s (.bool (intB ch))))
  | _ => none
end Go.Proofs

namespace Go.Proofs
open Go Go.Sx
set_option maxRecDepth 10000
def NP : Int := -2147483648
def odd (d : Int) : Bool := d % 2 == 1
def Core.fr (k : Core) (o : Bool) : Int := bif o then k.f1 else k.f0
def Core.bk (k : Core) (o : Bool) : Int := bif o then k.b1 else k.b0
def Core.setF (k : Core) (o : Bool) (w : Int) : Core := bif o then { k with f1 := w } else { k with f0 := w }
def Core.setB (k : Core) (o : Bool) (w : Int) : Core := bif o then { k with b1 := w } else { k with b0 := w }
/-- sched.Append. -/
def appR (k : Core) (m : Ram) (d : Int) : Core × Int × Ram :=
  bif bif !validB m (wsp d) then true else bif !(k.fr (odd d) == NP) then !validB m (k.bk (odd d)) else false then (.zero, 4, m)
  else bif k.fr (odd d) == NP then ((k.setF (odd d) (wsp d)).setB (odd d) (wsp d), 0, m)
  else (k.setB (odd d) (wsp d), 0, m.set (IntKind.i32.wrap (k.bk (odd d) + -8)) (wsp d))
noncomputable abbrev ctAp : CT := [(f_sched_none, in_sched_none ctSz), (f_sched_valid, eValid), (f_mem_Mem_SetWord, eSetWordT)]
theorem ctAp_ok : CTok Try.prog ctAp := ⟨in_sched_none_ok ctSz_ok, con_ok cal_sched_valid _, con_ok cal_mem_Mem_SetWord _, trivial⟩
theorem Append_c (k : Core) (m : Ram) (d : Int) (hok : k.ok) (hd : I32 d) : Con Try.prog f_sched_Append [.agg k.sv, .s (.loc 0 0), .s (.int .i32 d)] [mBox m.l.length, mOwn m.l]
    (.ret (.tup [.agg (appR k m d).1.sv, .s (.int .i64 (appR k m d).2.1)]) [mBox (appR k m d).2.2.l.length, mOwn (appR k m d).2.2.l]) := by
  intro K hK
  refine enter fn_sched_Append rfl nt_sched_Append rfl rfl (fun φ w0 β0 F => ?_)
  refine c_run tt_ok ctAp_ok k_sched_Append [100015, 100017] 60 (by kernel_rfl) ?_
  refine ⟨fun h => ?_, fun _ => ?_⟩
  · exfalso; have h0 := m.lo; have := of_decide_eq_true h; omega
  have h2 : d % 2 = 0 ∨ d % 2 = 1 := by omega
  rcases h2 with h2 | h2
  · have ho : odd d = false := by unfold odd; rw [h2]; rfl
    have hfr : k.fr (odd d) = k.f0 := by rw [ho]; rfl
    have hbk : k.bk (odd d) = k.b0 := by rw [ho]; rfl
    refine ⟨.t (.s (.int .i32 (wsp d))), fun β => by rw [andNot3_i32 hd]; rfl, rfl, .t (.s (.int .i32 0)), fun β => by rw [and1_i32, h2], rfl, ?_⟩
    refine ⟨m, ⟨rfl, rfl, rfl, rfl, wsp_I32 hd⟩, ?_⟩
    refine ⟨fun h => ⟨m, ⟨rfl, rfl, rfl, rfl, hok.b0⟩, fun h2 => ?_, fun h2 => ⟨fun h3 => ?_, fun h3 => ?_⟩⟩, fun h => ⟨fun h2 => absurd (h2.symm.trans h) (by decide), fun _ => ⟨fun hv => (by rw [hv] at h; exact h), fun h2 => ?_, fun h2 => ⟨fun h3 => ?_, fun h3 => ?_⟩⟩⟩⟩
    · have hV : validB m (wsp d) = true := by cases hv : validB m (wsp d) <;> simp [hv] at h ⊢
      have hE : (k.f0 == NP) = false := by cases hv : (k.f0 == NP) <;> simp [NP] at hv h ⊢ <;> simp_all
      have hB : validB m k.b0 = false := by cases hv : validB m k.b0 <;> simp [hv, hV] at h2 ⊢
      rw [show appR k m d = (.zero, 4, m) by unfold appR; rw [hfr, hbk, hV, hE, hB]; rfl] at hK
      exact fin_k tt_ok (rs := rs_sched_Append) rfl rfl hK [0, 1] rfl rfl rfl rfl rfl rfl
    · have hE : (k.f0 == NP) = false := by cases hv : (k.f0 == NP) <;> simp [NP] at hv h ⊢ <;> simp_all
      exact absurd (h3.symm.trans hE) (by decide)
    · have hV : validB m (wsp d) = true := by cases hv : validB m (wsp d) <;> simp [hv] at h ⊢
      have hE : (k.f0 == NP) = false := h3
      have hB : validB m k.b0 = true := by cases hv : validB m k.b0 <;> simp [hv, hV] at h2 ⊢
      rw [show appR k m d = (k.setB false (wsp d), 0, m.set (IntKind.i32.wrap (k.b0 + -8)) (wsp d)) by unfold appR; rw [hfr, hbk, hV, hE, hB, ho]; rfl] at hK
      refine ⟨m, ⟨rfl, rfl, rfl, rfl, I32_wrap _⟩, ?_⟩
      exact fin_k tt_ok (rs := rs_sched_Append) rfl rfl hK [0, 1] rfl rfl rfl rfl rfl rfl
    · have hV : validB m (wsp d) = false := by cases hv : validB m (wsp d) <;> simp [hv] at h2 ⊢
      rw [show appR k m d = (.zero, 4, m) by unfold appR; rw [hV]; rfl] at hK
      exact fin_k tt_ok (rs := rs_sched_Append) rfl rfl hK [0, 1] rfl rfl rfl rfl rfl rfl
    · have hV : validB m (wsp d) = true := by cases hv : validB m (wsp d) <;> simp [hv] at h2 ⊢
      have hE : (k.f0 == NP) = true := h3
      rw [show appR k m d = ((k.setF false (wsp d)).setB false (wsp d), 0, m) by unfold appR; rw [hfr, hbk, hV, hE, ho]; rfl] at hK
      exact fin_k tt_ok (rs := rs_sched_Append) rfl rfl hK [0, 1] rfl rfl rfl rfl rfl rfl
    · have hV : validB m (wsp d) = true := by cases hv : validB m (wsp d) <;> simp [hv] at h2 ⊢
      have h3' : (k.f0 == -2147483648) = false := h3
      rw [hV, h3'] at h
      exact absurd h (by decide)
  · have ho : odd d = true := by unfold odd; rw [h2]; rfl
    have hfr : k.fr (odd d) = k.f1 := by rw [ho]; rfl
    have hbk : k.bk (odd d) = k.b1 := by rw [ho]; rfl
    refine ⟨.t (.s (.int .i32 (wsp d))), fun β => by rw [andNot3_i32 hd]; rfl, rfl, .t (.s (.int .i32 1)), fun β => by rw [and1_i32, h2], rfl, ?_⟩
    refine ⟨m, ⟨rfl, rfl, rfl, rfl, wsp_I32 hd⟩, ?_⟩
    refine ⟨fun h => ⟨m, ⟨rfl, rfl, rfl, rfl, hok.b1⟩, fun h2 => ?_, fun h2 => ⟨fun h3 => ?_, fun h3 => ?_⟩⟩, fun h => ⟨fun h2 => absurd (h2.symm.trans h) (by decide), fun _ => ⟨fun hv => (by rw [hv] at h; exact h), fun h2 => ?_, fun h2 => ⟨fun h3 => ?_, fun h3 => ?_⟩⟩⟩⟩
    · have hV : validB m (wsp d) = true := by cases hv : validB m (wsp d) <;> simp [hv] at h ⊢
      have hE : (k.f1 == NP) = false := by cases hv : (k.f1 == NP) <;> simp [NP] at hv h ⊢ <;> simp_all
      have hB : validB m k.b1 = false := by cases hv : validB m k.b1 <;> simp [hv, hV] at h2 ⊢
      rw [show appR k m d = (.zero, 4, m) by unfold appR; rw [hfr, hbk, hV, hE, hB]; rfl] at hK
      exact fin_k tt_ok (rs := rs_sched_Append) rfl rfl hK [0, 1] rfl rfl rfl rfl rfl rfl
    · have hE : (k.f1 == NP) = false := by cases hv : (k.f1 == NP) <;> simp [NP] at hv h ⊢ <;> simp_all
      exact absurd (h3.symm.trans hE) (by decide)
    · have hV : validB m (wsp d) = true := by cases hv : validB m (wsp d) <;> simp [hv] at h ⊢
      have hE : (k.f1 == NP) = false := h3
      have hB : validB m k.b1 = true := by cases hv : validB m k.b1 <;> simp [hv, hV] at h2 ⊢
      rw [show appR k m d = (k.setB true (wsp d), 0, m.set (IntKind.i32.wrap (k.b1 + -8)) (wsp d)) by unfold appR; rw [hfr, hbk, hV, hE, hB, ho]; rfl] at hK
      refine ⟨m, ⟨rfl, rfl, rfl, rfl, I32_wrap _⟩, ?_⟩
      exact fin_k tt_ok (rs := rs_sched_Append) rfl rfl hK [0, 1] rfl rfl rfl rfl rfl rfl
    · have hV : validB m (wsp d) = false := by cases hv : validB m (wsp d) <;> simp [hv] at h2 ⊢
      rw [show appR k m d = (.zero, 4, m) by unfold appR; rw [hV]; rfl] at hK
      exact fin_k tt_ok (rs := rs_sched_Append) rfl rfl hK [0, 1] rfl rfl rfl rfl rfl rfl
    · have hV : validB m (wsp d) = true := by cases hv : validB m (wsp d) <;> simp [hv] at h2 ⊢
      have hE : (k.f1 == NP) = true := h3
      rw [show appR k m d = ((k.setF true (wsp d)).setB true (wsp d), 0, m) by unfold appR; rw [hfr, hbk, hV, hE, ho]; rfl] at hK
      exact fin_k tt_ok (rs := rs_sched_Append) rfl rfl hK [0, 1] rfl rfl rfl rfl rfl rfl
    · have hV : validB m (wsp d) = true := by cases hv : validB m (wsp d) <;> simp [hv] at h2 ⊢
      have h3' : (k.f1 == -2147483648) = false := h3
      rw [hV, h3'] at h
      exact absurd h (by decide)
noncomputable abbrev eAppend : Ent := .st (conS (P := Try.prog) (f := f_sched_Append) fun cargs σ0 => match cargs, σ0 with
  | [.agg cs, .s (.loc 0 0), .s (.int .i32 d)], [.blk 33 [.sl 1 0 n n'], .own 5 1 c xs] => withCore cs fun k hk => some ⟨.ex (Ram × Core × Int × Ram) fun p => .ask (n = p.1.l.length ∧ n' = p.1.l.length ∧ c = p.1.l.length ∧ xs = bytesI p.1.l ∧ (k.ok ∧ I32 d) ∧ appR k p.1 d = p.2)
      (.ret (.tup [.agg p.2.1.sv, .s (.int .i64 p.2.2.1)]) [mBox p.2.2.2.l.length, mOwn p.2.2.2.l]), fun K h => by
      obtain ⟨⟨m, k', e', m'⟩, ⟨e1, e2, e3, e4, h1, h2⟩, h⟩ := h
      dsimp only at e1 e2 e3 e4 h2 h
      subst e1; subst e2; subst e3; subst e4; subst hk
      refine Append_c k m d h1.1 h1.2 K ?_
      rw [h2]; exact h⟩
  | _, _ => none)
end Go.Proofs

namespace Go.Proofs
open Go Go.Sx
set_option maxRecDepth 10000
/-- What a function of the reference returns: a core, a memory, an error. -/
abbrev RES (m m' : Ram) (k' : Core) (e' : Int) : Out := .all Nat (fun c => m'.l.length ≤ c) fun c => .ret (.tup [.agg k'.sv, .s (.sl 1 0 m'.l.length c), .s (.int .i64 e')]) [.view (bytesI m.l), .view (bytesI m'.l)]
noncomputable abbrev ctRSt : CT := [(f_r03_SetWord, eRSetWordT)]
theorem ctRSt_ok : CTok Try.prog ctRSt := ⟨con_ok cal_r03_SetWord _, trivial⟩
theorem seg_all (m : Ram) : seg (bytesI m.l) 0 m.l.length = bytesI m.l := by rw [seg_bytesI, List.drop_zero, List.take_length]
noncomputable abbrev ctRVa : CT := [(f_r03_Index, .pure spIndex), (f_r03_Lies, .pure spLies)]
theorem ctRVa_ok : CTok Try.prog ctRVa := ⟨ceIndex, ceLies, trivial⟩
theorem RValid_c (m : Ram) (cap : Nat) (w : Int) (hw : I32 w) : Con Try.prog f_r29_Valid [.s (.sl 0 0 m.l.length cap), .s (.int .i32 w)] [.view (bytesI m.l)] (.ret (.t (.s (.bool (validB m w)))) [.view (bytesI m.l)]) := by
  intro K hK
  have h0 := m.lo
  have h1 := m.hi
  refine enter fn_r29_Valid rfl nt_r29_Valid rfl rfl (fun φ w0 β0 F => ?_)
  refine c_run tt_ok ctRVa_ok k_r29_Valid [] 60 (by kernel_rfl) ?_
  refine ⟨fun _ => hw, fun _ => ⟨by omega, by omega, hw⟩, ?_⟩
  refine fin_k tt_ok (rs := rs_r29_Valid) rfl rfl hK [0] (t1b ?_) rfl rfl rfl rfl rfl
  have e : (w.tmod 4 == 0) = (w % 4 == 0) := by
    unfold I32 at hw
    have : w.tmod 4 = w % 4 ∨ (w < 0 ∧ w.tmod 4 = -((-w) % 4)) := by
      rcases Int.lt_or_le w 0 with h | h
      · exact .inr ⟨h, (tmod4 w).2 h⟩
      · exact .inl ((tmod4 w).1 h)
    rw [Bool.eq_iff_iff]
    simp only [beq_iff_eq]
    omega
  rw [e]
  unfold validB liesB
  cases hA : (bif w % 4 == 0 then decide (ofAt w ≥ 20) else false)
  · rfl
  · have : ofAt w ≥ 20 := by
      cases h4 : (w % 4 == 0) <;> simp [h4] at hA
      exact hA
    simp only [cond_true]
    rw [Bool.eq_iff_iff]
    simp
    omega
noncomputable abbrev eRValid : Ent := .st (conS (P := Try.prog) (f := f_r29_Valid) fun cargs σ0 => match cargs, σ0 with
  | [.s (.sl 0 0 n cap), .s (.int .i32 w)], [.view xs] => some ⟨.ex Ram fun m => .ask (n = m.l.length ∧ xs = bytesI m.l ∧ I32 w) (.ret (.t (.s (.bool (validB m w)))) [.view (bytesI m.l)]), fun K h => by
      obtain ⟨m, ⟨e1, e2, h1⟩, h⟩ := h
      subst e1; subst e2
      exact RValid_c m cap w h1 K h⟩
  | _, _ => none)
theorem RNobody_c (k : Core) : Con Try.prog f_r29_Nobody [.agg k.sv] [] (.ret (.t (.agg k.nobody.sv)) []) := by
  intro K hK
  refine enter fn_r29_Nobody rfl nt_r29_Nobody rfl rfl (fun φ w0 β0 F => ?_)
  refine c_run tt_ok (ct := []) trivial k_r29_Nobody [] 60 (by kernel_rfl) ?_
  exact fin_k tt_ok (rs := rs_r29_Nobody) rfl rfl hK [] rfl rfl rfl rfl rfl rfl
def spRNobody : List TV → Option (Prop × FV)
  | [.agg cs] => withCore cs fun k _ => some (True, .t (.agg k.nobody.sv))
  | _ => none
theorem ceRNobody : CEok Try.prog f_r29_Nobody spRNobody := ⟨cal_r29_Nobody, fun args p v h hp => by
  unfold spRNobody at h; split at h
  · obtain ⟨k, hk, h⟩ := withCore_some h
    cases h; subst hk; exact (RNobody_c _).pure
  · cases h⟩
theorem RSet_c (m : Ram) (cap : Nat) (w k v : Int) (hc : m.l.length ≤ cap) : Con Try.prog f_r29_Set [.s (.sl 0 0 m.l.length cap), .s (.int .i32 w), .s (.int .i32 k), .s (.int .i32 v)] [.view (bytesI m.l)]
    (.all Nat (fun c => m.l.length ≤ c) fun c => .ret (.t (.s (.sl 1 0 (m.set (IntKind.i32.wrap (w + IntKind.i32.wrap (4 * k))) v).l.length c))) [.view (bytesI m.l), .view (bytesI (m.set (IntKind.i32.wrap (w + IntKind.i32.wrap (4 * k))) v).l)]) := by
  intro K hK
  refine enter fn_r29_Set rfl nt_r29_Set rfl rfl (fun φ w0 β0 F => ?_)
  refine c_run tt_ok ctRSt_ok k_r29_Set [] 60 (by kernel_rfl) ?_
  refine ⟨m, ⟨rfl, rfl, I32_wrap _, hc⟩, fun c h1 => ?_⟩
  exact fin_k tt_ok (rs := rs_r29_Set) rfl rfl (hK c h1) [0, 1] rfl rfl rfl rfl rfl rfl
noncomputable abbrev eRSet : Ent := .st (conS (P := Try.prog) (f := f_r29_Set) fun cargs σ0 => match cargs, σ0 with
  | [.s (.sl 0 0 n cap), .s (.int .i32 w), .s (.int .i32 k), .s (.int .i32 v)], [.view xs] => some ⟨.ex Ram fun m => .ask (n = m.l.length ∧ xs = bytesI m.l ∧ m.l.length ≤ cap)
      (.all Nat (fun c => m.l.length ≤ c) fun c => .ret (.t (.s (.sl 1 0 (m.set (IntKind.i32.wrap (w + IntKind.i32.wrap (4 * k))) v).l.length c))) [.view (bytesI m.l), .view (bytesI (m.set (IntKind.i32.wrap (w + IntKind.i32.wrap (4 * k))) v).l)]), fun K h => by
      obtain ⟨m, ⟨e1, e2, h1⟩, h⟩ := h
      subst e1; subst e2
      exact RSet_c m cap w k v h1 K h⟩
  | _, _ => none)
def waR (k : Core) (m : Ram) : Core × Int × Ram := bif !k.busy then (.zero, 8, m) else bif !validB m k.wptr then (.zero, 4, m) else (k.nobody, 0, m.set (IntKind.i32.wrap (k.wptr + -4)) k.iptr)
noncomputable abbrev ctRWt : CT := [(f_r29_Valid, eRValid), (f_r29_Nobody, .pure spRNobody), (f_r29_Set, eRSet)]
theorem ctRWt_ok : CTok Try.prog ctRWt := ⟨con_ok cal_r29_Valid _, ceRNobody, con_ok cal_r29_Set _, trivial⟩
set_option maxHeartbeats 4000000 in
theorem RWait_c (k : Core) (m : Ram) (cap : Nat) (k' : Core) (e' : Int) (m' : Ram) (hw : I32 k.wptr) (hc : m.l.length ≤ cap) (hx : waR k m = (k', e', m')) :
    Con Try.prog f_r29_Wait [.agg k.sv, .s (.sl 0 0 m.l.length cap)] [.view (bytesI m.l)] (RES m m' k' e') := by
  intro K hK
  refine enter fn_r29_Wait rfl nt_r29_Wait rfl rfl (fun φ w0 β0 F => ?_)
  refine c_run tt_ok ctRWt_ok k_r29_Wait [] 60 (by kernel_rfl) ?_
  refine ⟨fun h => ?_, fun h => ⟨m, ⟨rfl, rfl, hw⟩, fun h2 => ?_, fun h2 => ?_⟩⟩
  · simp only [waR, h, cond_true] at hx
    cases hx
    refine WpE.into (aliasSlot 5 0 0 m.l.length cap rfl rfl) ?_
    refine fin_k tt_ok (rs := rs_r29_Wait) rfl rfl (hK cap hc) [0, 3] rfl ?_ rfl rfl rfl rfl
    rw [seg_all]; rfl
  · simp only [waR, h, h2, cond_true, cond_false] at hx
    cases hx
    refine WpE.into (aliasSlot 5 0 0 m.l.length cap rfl rfl) ?_
    refine fin_k tt_ok (rs := rs_r29_Wait) rfl rfl (hK cap hc) [0, 3] rfl ?_ rfl rfl rfl rfl
    rw [seg_all]; rfl
  · simp only [waR, h, h2, cond_false] at hx
    cases hx
    refine c_ways tt_ok ctRWt_ok k_r29_Wait rfl rfl ?_
    repeat' (first | exact trivial | (refine ⟨m, ⟨rfl, rfl, hc⟩, fun c h1 => ?_⟩) | (refine And.intro ?_ ?_))
    all_goals
      refine e_run tt_ok ctRWt_ok k_r29_Wait [] 60 (by kernel_rfl) ?_
      refine fin_k tt_ok (rs := rs_r29_Wait) rfl rfl (hK c (by rw [set_len]; assumption)) [0, 3] rfl rfl rfl rfl rfl rfl
noncomputable abbrev eRWait : Ent := .st (conS (P := Try.prog) (f := f_r29_Wait) fun cargs σ0 => match cargs, σ0 with
  | [.agg cs, .s (.sl 0 0 n cap)], [.view xs] => withCore cs fun k hk => some ⟨.ex (Ram × Core × Int × Ram) fun p => .ask (n = p.1.l.length ∧ xs = bytesI p.1.l ∧ I32 k.wptr ∧ p.1.l.length ≤ cap ∧ waR k p.1 = p.2) (RES p.1 p.2.2.2 p.2.1 p.2.2.1), fun K h => by
      obtain ⟨⟨m, k', e', m'⟩, ⟨e1, e2, h1, h2, h3⟩, h⟩ := h
      dsimp only at e1 e2 h1 h2 h3 h
      subst e1; subst e2; subst hk
      exact RWait_c k m cap k' e' m' h1 h2 h3 K h⟩
  | _, _ => none)
end Go.Proofs

namespace Go.Proofs
open Go Go.Sx
set_option maxRecDepth 10000
def spRInternal : List TV → Option (Prop × FV)
  | [.s (.int .i32 ch)] => some (I32 ch, .t (.s (.bool (intB ch))))
  | _ => none
theorem err_word {m : Ram} {a : Int} (h : (m.err a != 0) = true) : m.word a = 0 ∧ m.err a = 4 := by
  unfold Ram.err at h ⊢
  unfold Ram.word
  cases hb : wBad m a
  · rw [hb] at h; simp at h
  · exact ⟨rfl, rfl⟩
theorem err_zero {m : Ram} {a : Int} (h : (m.err a != 0) = false) : m.err a = 0 := by simpa using h
theorem RSpace_c (d : Int) (h : I32 d) : Con Try.prog f_r29_Space [.s (.int .i32 d)] [] (.ret (.tup [.s (.int .i32 (wsp d)), .s (.int .i64 (d % 2))]) []) := by
  intro K hK
  refine enter fn_r29_Space rfl nt_r29_Space rfl rfl (fun φ w0 β0 F => ?_)
  refine c_run tt_ok (ct := []) trivial k_r29_Space [] 60 (by kernel_rfl) ?_
  refine fin_k tt_ok (rs := rs_r29_Space) rfl rfl hK [] (t2 ?_ ?_) rfl rfl rfl rfl rfl
  · rw [andNot3_i32 h]; rfl
  · rw [and1_i32, wrap64 (by omega) (by omega)]
def spRSpace : List TV → Option (Prop × FV)
  | [.s (.int .i32 d)] => some (I32 d, .tup [.s (.int .i32 (wsp d)), .s (.int .i64 (d % 2))])
  | _ => none
theorem ceRSpace : CEok Try.prog f_r29_Space spRSpace := ⟨cal_r29_Space, fun args p v h hp => by
  unfold spRSpace at h; split at h
  · cases h; exact (RSpace_c _ hp).pure
  · cases h⟩
noncomputable abbrev ctRW9 : CT := [(f_r03_Word, eRWordT)]
theorem ctRW9_ok : CTok Try.prog ctRW9 := ⟨con_ok cal_r03_Word _, trivial⟩
theorem RWord9_c (m : Ram) (cap : Nat) (w k : Int) : Con Try.prog f_r29_Word [.s (.sl 0 0 m.l.length cap), .s (.int .i32 w), .s (.int .i32 k)] [.view (bytesI m.l)]
    (.ret (.t (.s (.int .i32 (m.word (IntKind.i32.wrap (w + IntKind.i32.wrap (4 * k))))))) [.view (bytesI m.l)]) := by
  intro K hK
  refine enter fn_r29_Word rfl nt_r29_Word rfl rfl (fun φ w0 β0 F => ?_)
  refine c_run tt_ok ctRW9_ok k_r29_Word [] 60 (by kernel_rfl) ?_
  refine ⟨m, ⟨rfl, rfl, I32_wrap _⟩, ?_⟩
  exact fin_k tt_ok (rs := rs_r29_Word) rfl rfl hK [0] rfl rfl rfl rfl rfl rfl
noncomputable abbrev eRWord9 : Ent := .st (conS (P := Try.prog) (f := f_r29_Word) fun cargs σ0 => match cargs, σ0 with
  | [.s (.sl 0 0 n cap), .s (.int .i32 w), .s (.int .i32 k)], [.view xs] => some ⟨.ex Ram fun m => .ask (n = m.l.length ∧ xs = bytesI m.l)
      (.ret (.t (.s (.int .i32 (m.word (IntKind.i32.wrap (w + IntKind.i32.wrap (4 * k))))))) [.view (bytesI m.l)]), fun K h => by
      obtain ⟨m, ⟨e1, e2⟩, h⟩ := h
      subst e1; subst e2
      exact RWord9_c m cap w k K h⟩
  | _, _ => none)
noncomputable abbrev ctRAp : CT := [(f_r29_Space, .pure spRSpace), (f_r29_Valid, eRValid), (f_r29_Set, eRSet)]
theorem ctRAp_ok : CTok Try.prog ctRAp := ⟨ceRSpace, con_ok cal_r29_Valid _, con_ok cal_r29_Set _, trivial⟩
theorem RAppend_c (k : Core) (m : Ram) (cap : Nat) (d : Int) (k' : Core) (e' : Int) (m' : Ram) (hok : k.ok) (hd : I32 d) (hc : m.l.length ≤ cap) (hx : appR k m d = (k', e', m')) :
    Con Try.prog f_r29_Append [.agg k.sv, .s (.sl 0 0 m.l.length cap), .s (.int .i32 d)] [.view (bytesI m.l)] (RES m m' k' e') := by
  intro K hK
  refine enter fn_r29_Append rfl nt_r29_Append rfl rfl (fun φ w0 β0 F => ?_)
  refine c_run tt_ok ctRAp_ok k_r29_Append [100010] 60 (by kernel_rfl) ?_
  have h2 : d % 2 = 0 ∨ d % 2 = 1 := by omega
  rcases h2 with h2 | h2
  · have ho : odd d = false := by unfold odd; rw [h2]; rfl
    unfold appR at hx
    rw [ho] at hx
    refine ⟨hd, .t (.s (.int .i64 0)), fun β => by rw [h2], rfl, m, ⟨rfl, rfl, wsp_I32 hd⟩, fun h => ?_, fun h => ⟨fun h3 => ?_, fun h3 => ⟨m, ⟨rfl, rfl, hok.b0⟩, fun h4 => ?_, fun h4 => ?_⟩⟩⟩
    · rw [show (!validB m (wsp d)) = true from h] at hx
      cases hx
      refine WpE.into (aliasSlot 7 0 0 m.l.length cap rfl rfl) ?_
      refine fin_k tt_ok (rs := rs_r29_Append) rfl rfl (hK cap hc) [0, 3] rfl ?_ rfl rfl rfl rfl
      rw [seg_all]; rfl
    · rw [show (!validB m (wsp d)) = false from h, show (k.fr false == NP) = true from h3] at hx
      cases hx
      refine WpE.into (aliasSlot 7 0 0 m.l.length cap rfl rfl) ?_
      refine fin_k tt_ok (rs := rs_r29_Append) rfl rfl (hK cap hc) [0, 3] rfl ?_ rfl rfl rfl rfl
      rw [seg_all]; rfl
    · rw [show (!validB m (wsp d)) = false from h, show (k.fr false == NP) = false from h3, show validB m (k.bk false) = true from h4] at hx
      cases hx
      refine ⟨m, ⟨rfl, rfl, hc⟩, fun c h5 => ?_⟩
      refine fin_k tt_ok (rs := rs_r29_Append) rfl rfl (hK c (by rw [set_len]; exact h5)) [0, 3] rfl ?_ rfl rfl rfl rfl
      rfl
    · rw [show (!validB m (wsp d)) = false from h, show (k.fr false == NP) = false from h3, show validB m (k.bk false) = false from h4] at hx
      cases hx
      refine WpE.into (aliasSlot 7 0 0 m.l.length cap rfl rfl) ?_
      refine fin_k tt_ok (rs := rs_r29_Append) rfl rfl (hK cap hc) [0, 3] rfl ?_ rfl rfl rfl rfl
      rw [seg_all]; rfl
  · have ho : odd d = true := by unfold odd; rw [h2]; rfl
    unfold appR at hx
    rw [ho] at hx
    refine ⟨hd, .t (.s (.int .i64 1)), fun β => by rw [h2], rfl, m, ⟨rfl, rfl, wsp_I32 hd⟩, fun h => ?_, fun h => ⟨fun h3 => ?_, fun h3 => ⟨m, ⟨rfl, rfl, hok.b1⟩, fun h4 => ?_, fun h4 => ?_⟩⟩⟩
    · rw [show (!validB m (wsp d)) = true from h] at hx
      cases hx
      refine WpE.into (aliasSlot 7 0 0 m.l.length cap rfl rfl) ?_
      refine fin_k tt_ok (rs := rs_r29_Append) rfl rfl (hK cap hc) [0, 3] rfl ?_ rfl rfl rfl rfl
      rw [seg_all]; rfl
    · rw [show (!validB m (wsp d)) = false from h, show (k.fr true == NP) = true from h3] at hx
      cases hx
      refine WpE.into (aliasSlot 7 0 0 m.l.length cap rfl rfl) ?_
      refine fin_k tt_ok (rs := rs_r29_Append) rfl rfl (hK cap hc) [0, 3] rfl ?_ rfl rfl rfl rfl
      rw [seg_all]; rfl
    · rw [show (!validB m (wsp d)) = false from h, show (k.fr true == NP) = false from h3, show validB m (k.bk true) = true from h4] at hx
      cases hx
      refine ⟨m, ⟨rfl, rfl, hc⟩, fun c h5 => ?_⟩
      refine fin_k tt_ok (rs := rs_r29_Append) rfl rfl (hK c (by rw [set_len]; exact h5)) [0, 3] rfl ?_ rfl rfl rfl rfl
      rfl
    · rw [show (!validB m (wsp d)) = false from h, show (k.fr true == NP) = false from h3, show validB m (k.bk true) = false from h4] at hx
      cases hx
      refine WpE.into (aliasSlot 7 0 0 m.l.length cap rfl rfl) ?_
      refine fin_k tt_ok (rs := rs_r29_Append) rfl rfl (hK cap hc) [0, 3] rfl ?_ rfl rfl rfl rfl
      rw [seg_all]; rfl
noncomputable abbrev eRAppend : Ent := .st (conS (P := Try.prog) (f := f_r29_Append) fun cargs σ0 => match cargs, σ0 with
  | [.agg cs, .s (.sl 0 0 n cap), .s (.int .i32 d)], [.view xs] => withCore cs fun k hk => some ⟨.ex (Ram × Core × Int × Ram) fun p => .ask (n = p.1.l.length ∧ xs = bytesI p.1.l ∧ (k.ok ∧ I32 d ∧ p.1.l.length ≤ cap) ∧ appR k p.1 d = p.2) (RES p.1 p.2.2.2 p.2.1 p.2.2.1), fun K h => by
      obtain ⟨⟨m, k', e', m'⟩, ⟨e1, e2, ⟨h1, h2, h3⟩, h4⟩, h⟩ := h
      dsimp only at e1 e2 h1 h2 h3 h4 h
      subst e1; subst e2; subst hk
      exact RAppend_c k m cap d k' e' m' h1 h2 h3 h4 K h⟩
  | _, _ => none)
end Go.Proofs
