/- The reference's memories: put, SetByte, SetWord, Read, Write, Move. -/
import Derived.Test.YtehloaopipkbjaaWalkA
import Derived.Test.YtehloaopipkbjaaSxC

namespace Go.Proofs
open Go Go.Sx
set_option maxRecDepth 10000
theorem one_seg {ys : List Value} {a b : Nat} (h : ∀ u ∈ ys, u.oneCell' = true) : ∀ u ∈ seg ys a b, u.oneCell' = true := fun u hu => h u (List.mem_of_mem_drop (List.mem_of_mem_take hu))
theorem seg_full (l : List Int) : seg (bytesI l) 0 l.length = bytesI l := by rw [seg_bytesI, List.drop_zero, List.take_length]
theorem put_v (l x : List Int) (cap cb : Nat) (i : Nat) (hi : i + x.length ≤ l.length) (hn : l.length ≤ 65536) (hc : l.length ≤ cap) : Con Try.prog f_r03_put [.s (.sl 0 0 l.length cap), .s (.int .i64 (i : Int)), .s (.sl 1 0 x.length cb)] [.view (bytesI l), .view (bytesI x)]
    (.all Nat (fun c => l.length ≤ c) fun c => .ret (.t (.s (.sl 2 0 l.length c))) [.view (bytesI l), .view (bytesI x), .view (bytesI (setL l i x))]) := by
  intro K hK
  refine enter fn_r03_put rfl nt_r03_put rfl rfl (fun φ w0 β0 F => ?_)
  refine c_run tt_ok (ct := []) trivial k_r03_put [] 60 (by kernel_rfl) ?_
  refine ⟨0, i, ⟨_, _, rfl, rfl, rfl, rfl⟩, ⟨by omega, by omega⟩, ?_⟩
  refine ⟨⟨by simp [seg]; omega, one_seg (one_seg (bytesI_one _)), by simp only [maxLen]; omega, by omega⟩, fun c1 h1 h1' => ?_⟩
  refine ⟨⟨rfl, by simp [seg]; omega, by simp, one_seg (bytesI_one _), by simp only [maxLen]; omega, by omega⟩, fun c2 h2 h2' => ?_⟩
  refine ⟨i + x.length, l.length, ⟨_, _, rfl, rfl, ?_, rfl⟩, ⟨by omega, by omega⟩, ?_⟩
  · show IntKind.i64.wrap ((i : Int) + (x.length : Int)) = _
    rw [wrap64 (by omega) (by omega)]; omega
  refine ⟨⟨rfl, by simp [seg]; omega, by simp [seg], one_seg (one_seg (bytesI_one _)), by simp only [maxLen]; omega, by omega⟩, fun c3 h3 h3' => ?_⟩
  show WpE _ _ _ _ _
  refine e_freeze 7 rfl rfl ?_
  refine fin_k tt_ok (rs := rs_r03_put) rfl rfl (hK c3 (by omega)) [0, 1, 7] ?_ ?_ rfl rfl rfl rfl
  · rw [show i - 0 + x.length + (l.length - (i + x.length)) = l.length by omega]; rfl
  · have e : seg (seg (bytesI l) (0 + 0 * 1) ((i - 0) * 1)) 0 ((i - 0) * 1) ++ seg (bytesI x) 0 (x.length * 1) ++ seg (seg (bytesI l) (0 + (i + x.length) * 1) ((l.length - (i + x.length)) * 1)) 0 ((l.length - (i + x.length)) * 1) = bytesI (setL l i x) := by
      simp only [Nat.zero_mul, Nat.mul_one, Nat.add_zero, Nat.zero_add, Nat.sub_zero, seg_bytesI, List.drop_zero, setL, bytesI_append, List.take_take, Nat.min_self, List.take_length]
      rw [List.take_of_length_le (l := List.drop (i + x.length) l) (by simp)]
    simp only [pickL, List.getElem?_cons_zero, List.getElem?_cons_succ]
    rw [e]; rfl
theorem put_o (l x : List Int) (cap cb : Nat) (i : Nat) (hi : i + x.length ≤ l.length) (hn : l.length ≤ 65536) (hc : l.length ≤ cap) : Con Try.prog f_r03_put [.s (.sl 0 0 l.length cap), .s (.int .i64 (i : Int)), .s (.sl 1 0 x.length cb)] [.view (bytesI l), .own 5 1 cb (bytesI x)]
    (.all Nat (fun c => l.length ≤ c) fun c => .ret (.t (.s (.sl 2 0 l.length c))) [.view (bytesI l), .view (bytesI x), .view (bytesI (setL l i x))]) := by
  intro K hK
  refine enter fn_r03_put rfl nt_r03_put rfl rfl (fun φ w0 β0 F => ?_)
  refine c_freeze 1 rfl rfl ?_
  refine c_run tt_ok (ct := []) trivial k_r03_put [] 60 (by kernel_rfl) ?_
  refine ⟨0, i, ⟨_, _, rfl, rfl, rfl, rfl⟩, ⟨by omega, by omega⟩, ?_⟩
  refine ⟨⟨by simp [seg]; omega, one_seg (one_seg (bytesI_one _)), by simp only [maxLen]; omega, by omega⟩, fun c1 h1 h1' => ?_⟩
  refine ⟨⟨rfl, by simp [seg]; omega, by simp, one_seg (bytesI_one _), by simp only [maxLen]; omega, by omega⟩, fun c2 h2 h2' => ?_⟩
  refine ⟨i + x.length, l.length, ⟨_, _, rfl, rfl, ?_, rfl⟩, ⟨by omega, by omega⟩, ?_⟩
  · show IntKind.i64.wrap ((i : Int) + (x.length : Int)) = _
    rw [wrap64 (by omega) (by omega)]; omega
  refine ⟨⟨rfl, by simp [seg]; omega, by simp [seg], one_seg (one_seg (bytesI_one _)), by simp only [maxLen]; omega, by omega⟩, fun c3 h3 h3' => ?_⟩
  show WpE _ _ _ _ _
  refine e_freeze 7 rfl rfl ?_
  refine fin_k tt_ok (rs := rs_r03_put) rfl rfl (hK c3 (by omega)) [0, 1, 7] ?_ ?_ rfl rfl rfl rfl
  · rw [show i - 0 + x.length + (l.length - (i + x.length)) = l.length by omega]; rfl
  · have e : seg (seg (bytesI l) (0 + 0 * 1) ((i - 0) * 1)) 0 ((i - 0) * 1) ++ seg (bytesI x) 0 (x.length * 1) ++ seg (seg (bytesI l) (0 + (i + x.length) * 1) ((l.length - (i + x.length)) * 1)) 0 ((l.length - (i + x.length)) * 1) = bytesI (setL l i x) := by
      simp only [Nat.zero_mul, Nat.mul_one, Nat.add_zero, Nat.zero_add, Nat.sub_zero, seg_bytesI, List.drop_zero, setL, bytesI_append, List.take_take, Nat.min_self, List.take_length]
      rw [List.take_of_length_le (l := List.drop (i + x.length) l) (by simp)]
    simp only [pickL, List.getElem?_cons_zero, List.getElem?_cons_succ]
    rw [e]; rfl
abbrev PutOut (l x : List Int) (i : Nat) : Out := .all Nat (fun c => l.length ≤ c) fun c => .ret (.t (.s (.sl 2 0 l.length c))) [.view (bytesI l), .view (bytesI x), .view (bytesI (setL l i x))]
noncomputable abbrev ePut : Ent := .st (conS (P := Try.prog) (f := f_r03_put) fun cargs σ0 => match cargs, σ0 with
  | [.s (.sl 0 0 n cap), .s (.int .i64 i), .s (.sl 1 0 k cb)], [.view ys, .own 5 1 cb' xs] => some ⟨.ex (List Int × List Int × Nat) fun p => .ask (ys = bytesI p.1 ∧ n = p.1.length ∧ xs = bytesI p.2.1 ∧ k = p.2.1.length ∧ cb' = cb ∧ i = (p.2.2 : Int) ∧ p.2.2 + p.2.1.length ≤ p.1.length ∧ p.1.length ≤ 65536 ∧ p.1.length ≤ cap)
      (PutOut p.1 p.2.1 p.2.2), fun K h => by
      obtain ⟨⟨l, x, j⟩, ⟨e1, e2, e3, e4, e5, e6, h1, h2, h3⟩, h⟩ := h
      subst e1; subst e2; subst e3; subst e4; subst e5; subst e6
      exact put_o l x cap cb' j h1 h2 h3 K h⟩
  | [.s (.sl 0 0 n cap), .s (.int .i64 i), .s (.sl 1 0 k cb)], [.view ys, .view xs] => some ⟨.ex (List Int × List Int × Nat) fun p => .ask (ys = bytesI p.1 ∧ n = p.1.length ∧ xs = bytesI p.2.1 ∧ k = p.2.1.length ∧ i = (p.2.2 : Int) ∧ p.2.2 + p.2.1.length ≤ p.1.length ∧ p.1.length ≤ 65536 ∧ p.1.length ≤ cap)
      (PutOut p.1 p.2.1 p.2.2), fun K h => by
      obtain ⟨⟨l, x, j⟩, ⟨e1, e2, e3, e4, e6, h1, h2, h3⟩, h⟩ := h
      subst e1; subst e2; subst e3; subst e4; subst e6
      exact put_v l x cap cb j h1 h2 h3 K h⟩
  | _, _ => none)
noncomputable abbrev eFour : Ent := .st (conS (P := Try.prog) (f := f_r03_Four) fun cargs σ0 => match cargs, σ0 with
  | [.s (.int .i32 v)], [] => some ⟨.ret (.t (.s (.sl 0 0 4 4))) [.own 5 1 4 (bytesI [byK v 0, byK v 1, byK v 2, byK v 3])], fun K h => Four_c v K h⟩
  | _, _ => none)
noncomputable abbrev ctPu : CT := [(f_r03_Index, .pure spIndex), (f_r03_Lies, .pure spLies), (f_r03_put, ePut), (f_r03_Four, eFour)]
theorem ctPu_ok : CTok Try.prog ctPu := ⟨ceIndex, ceLies, con_ok cal_r03_put _, con_ok cal_r03_Four _, trivial⟩
/-- A memory that is told anew, or the same one with an error. -/
abbrev MemOut (b : Bool) (l l' : List Int) (cap : Nat) : Out := .br b (.ret (.tup [.s (.sl 0 0 l.length cap), .s (.int .i64 4)]) [.view (bytesI l)])
  (.all Nat (fun c => l.length ≤ c) fun c => .ret (.tup [.s (.sl 1 0 l.length c), .s (.int .i64 0)]) [.view (bytesI l), .view (bytesI l')])
theorem lies_i {n : Nat} {a k : Int} (ha : I32 a) (hk : 0 ≤ k) (h : liesB n a k = true) : 0 ≤ ofAt a ∧ ofAt a + k ≤ n ∧ ofAt a < n :=
  spanBad_i ha (k := k) (n := n) (by have := lies_span n a k hk; rw [h] at this; simpa using this.symm)
theorem RSetByte_c (l : List Int) (cap : Nat) (a v : Int) (hn : l.length ≤ 65536) (ha : I32 a) (hc : l.length ≤ cap) : Con Try.prog f_r03_SetByte [.s (.sl 0 0 l.length cap), .s (.int .i32 a), .s (.int .u8 v)] [.view (bytesI l)]
    (MemOut (!liesB l.length a 1) l (setL l (ofAt a).toNat [v]) cap) := by
  intro K ⟨hK1, hK2⟩
  refine enter fn_r03_SetByte rfl nt_r03_SetByte rfl rfl (fun φ w0 β0 F => ?_)
  refine c_run tt_ok ctPu_ok k_r03_SetByte [] 60 (by kernel_rfl) ?_
  refine ⟨⟨by omega, by omega, ha⟩, fun h => ?_, fun h => ?_⟩
  · exact fin_k tt_ok (rs := rs_r03_SetByte) rfl rfl (hK1 h) [0] rfl rfl rfl rfl rfl rfl
  · have hb : liesB l.length a 1 = true := by simpa using h
    have hi := lies_i ha (by decide) hb
    refine ⟨ha, (l, [v], (ofAt a).toNat), ⟨rfl, rfl, rfl, rfl, rfl, (Int.toNat_of_nonneg hi.1).symm, by simp; omega, hn, hc⟩, fun c h1 => ?_⟩
    exact fin_k tt_ok (rs := rs_r03_SetByte) rfl rfl (hK2 h c h1) [0, 2] rfl rfl rfl rfl rfl rfl
theorem setW_four {l : List Int} {i : Nat} (v : Int) (h : i + 4 ≤ l.length) : setL l i [byK v 0, byK v 1, byK v 2, byK v 3] = setW l i v := by
  apply List.ext_getElem?
  intro j
  have hl : (setW l i v).length = l.length := stW_length h 4 (by decide)
  have hl' : (setL l i [byK v 0, byK v 1, byK v 2, byK v 3]).length = l.length := setL_length (by simpa using h)
  rcases Nat.lt_or_ge j l.length with hj | hj
  · have e := stW_get (v := v) h 4 (by decide) j
    rw [show stW l i v 4 = setW l i v from rfl] at e
    have e2 : (setL l i [byK v 0, byK v 1, byK v 2, byK v 3]).getD j 0 = if i ≤ j ∧ j < i + 4 then byK v (j - i) else l.getD j 0 := by
      unfold setL
      simp only [List.getD_eq_getElem?_getD]
      by_cases h1 : j < i
      · rw [List.append_assoc, List.getElem?_append_left (by simp; omega), List.getElem?_take_of_lt h1, if_neg (by omega)]
      · by_cases h2 : j < i + 4
        · rw [List.append_assoc, List.getElem?_append_right (by simp; omega), List.getElem?_append_left (by simp; omega), if_pos (by omega)]
          have hm : min i l.length = i := by omega
          simp only [List.length_take, hm]
          obtain ⟨k, hk, rfl⟩ : ∃ k, k < 4 ∧ j = i + k := ⟨j - i, by omega, by omega⟩
          rw [Nat.add_sub_cancel_left]
          match k, hk with
          | 0, _ => rfl
          | 1, _ => rfl
          | 2, _ => rfl
          | 3, _ => rfl
        · rw [List.getElem?_append_right (by simp; omega), if_neg (by omega)]
          simp only [List.length_append, List.length_take, List.length_cons, List.length_nil, List.getElem?_drop]
          congr 2
          omega
    rw [← e] at e2
    simpa [List.getD_eq_getElem?_getD, hl, hl', hj] using e2
  · rw [List.getElem?_eq_none (by omega), List.getElem?_eq_none (by omega)]
theorem RSetWord_c (l : List Int) (cap : Nat) (a v : Int) (hn : l.length ≤ 65536) (h4 : l.length % 4 = 0) (ha : I32 a) (hc : l.length ≤ cap) : Con Try.prog f_r03_SetWord [.s (.sl 0 0 l.length cap), .s (.int .i32 a), .s (.int .i32 v)] [.view (bytesI l)]
    (MemOut (!liesB l.length a 1) l (setW l (ofAt (wAt a)).toNat v) cap) := by
  intro K ⟨hK1, hK2⟩
  refine enter fn_r03_SetWord rfl nt_r03_SetWord rfl rfl (fun φ w0 β0 F => ?_)
  refine c_run tt_ok ctPu_ok k_r03_SetWord [] 60 (by kernel_rfl) ?_
  refine ⟨⟨by omega, by omega, ha⟩, fun h => ?_, fun h => ?_⟩
  · exact fin_k tt_ok (rs := rs_r03_SetWord) rfl rfl (hK1 h) [0] rfl rfl rfl rfl rfl rfl
  · have hb : liesB l.length a 1 = true := by simpa using h
    have hi := lies_i ha (by decide) hb
    have hw : (ofAt (wAt a)).toNat + 4 ≤ l.length := by unfold ofAt wAt at *; omega
    have ei : IntKind.i64.wrap (ofAt a - (ofAt a).tmod 4) = ((ofAt (wAt a)).toNat : Int) := by
      rw [(tmod4 _).1 hi.1, wrap64 (by omega) (by omega)]; unfold ofAt wAt at *; omega
    refine ⟨ha, (l, [byK v 0, byK v 1, byK v 2, byK v 3], (ofAt (wAt a)).toNat), ⟨rfl, rfl, rfl, rfl, rfl, ei, hw, hn, hc⟩, fun c h1 => ?_⟩
    refine fin_k tt_ok (rs := rs_r03_SetWord) rfl rfl (hK2 h c h1) [0, 2] rfl ?_ rfl rfl rfl rfl
    rw [← setW_four v hw]; rfl
theorem RRead_c (l : List Int) (cap : Nat) (a k : Int) (hn : l.length ≤ 65536) (ha : I32 a) (hc : l.length ≤ cap) (hk : k ≤ 9223372036854775807) : Con Try.prog f_r03_Read [.s (.sl 0 0 l.length cap), .s (.int .i32 a), .s (.int .i64 k)] [.view (bytesI l)]
    (.br (decide (k < 0)) (.ret (.tup [.s (.raw (.slice none 0 0)), .s (.int .i64 2)]) [.view (bytesI l)])
      (.br (k == 0) (.ret (.tup [.s (.raw (.slice none 0 0)), .s (.int .i64 0)]) [.view (bytesI l)])
        (.br (!liesB l.length a k) (.ret (.tup [.s (.raw (.slice none 0 0)), .s (.int .i64 4)]) [.view (bytesI l)])
          (.all Nat (fun c => k.toNat ≤ c) fun c => .ret (.tup [.s (.sl 1 0 k.toNat c), .s (.int .i64 0)]) [.view (bytesI l), .view (bytesI ((l.drop (ofAt a).toNat).take k.toNat))])))) := by
  intro K ⟨hK1, hK⟩
  refine enter fn_r03_Read rfl nt_r03_Read rfl rfl (fun φ w0 β0 F => ?_)
  refine c_run tt_ok ctPu_ok k_r03_Read [] 60 (by kernel_rfl) ?_
  refine ⟨fun h => ?_, fun hk1 => ⟨fun h => ?_, fun hk2 => ⟨⟨by omega, by omega, ha⟩, fun h => ?_, fun h => ?_⟩⟩⟩
  · exact fin_k tt_ok (rs := rs_r03_Read) rfl rfl (hK1 h) [0] rfl rfl rfl rfl rfl rfl
  · exact fin_k tt_ok (rs := rs_r03_Read) rfl rfl ((hK hk1).1 h) [0] rfl rfl rfl rfl rfl rfl
  · exact fin_k tt_ok (rs := rs_r03_Read) rfl rfl (((hK hk1).2 hk2).1 h) [0] rfl rfl rfl rfl rfl rfl
  · have hk0 : ¬ k < 0 := of_decide_eq_false hk1
    have hb : liesB l.length a k = true := by simpa using h
    have hi := lies_i ha (by omega) hb
    have hKK := ((hK hk1).2 hk2).2 h
    have e1 : IntKind.i64.wrap (ofAt a + k) = (((ofAt a).toNat + k.toNat : Nat) : Int) := by rw [wrap64 (by omega) (by omega)]; omega
    refine ⟨ha, ha, (ofAt a).toNat, (ofAt a).toNat + k.toNat, ⟨_, _, rfl, rfl, (Int.toNat_of_nonneg hi.1).symm, e1⟩, ⟨by omega, by omega⟩, ?_⟩
    refine ⟨⟨by simp [seg]; omega, one_seg (one_seg (bytesI_one _)), by simp only [maxLen]; omega, by omega⟩, fun c1 h1 h1' => ?_⟩
    show WpE _ _ _ _ _
    refine e_freeze 3 rfl rfl ?_
    refine fin_k tt_ok (rs := rs_r03_Read) rfl rfl (hKK c1 (by omega)) [0, 3] ?_ ?_ rfl rfl rfl rfl
    · rw [show (ofAt a).toNat + k.toNat - (ofAt a).toNat = k.toNat by omega]; rfl
    · have e2 : seg (seg (bytesI l) (0 + (ofAt a).toNat * 1) (((ofAt a).toNat + k.toNat - (ofAt a).toNat) * 1)) 0 (((ofAt a).toNat + k.toNat - (ofAt a).toNat) * 1) = bytesI ((l.drop (ofAt a).toNat).take k.toNat) := by
        rw [show (ofAt a).toNat + k.toNat - (ofAt a).toNat = k.toNat by omega]
        simp only [Nat.mul_one, Nat.zero_add, seg_bytesI, List.drop_zero, List.take_take, Nat.min_self]
      simp only [pickL, List.getElem?_cons_zero, List.getElem?_cons_succ]
      rw [← e2]; rfl
end Go.Proofs

namespace Go.Proofs
open Go Go.Sx
set_option maxRecDepth 10000
theorem RWrite_c (l x : List Int) (cap cb : Nat) (a : Int) (hn : l.length ≤ 65536) (ha : I32 a) (hc : l.length ≤ cap) (hx : x.length ≤ 4294967296) : Con Try.prog f_r03_Write [.s (.sl 0 0 l.length cap), .s (.int .i32 a), .s (.sl 1 0 x.length cb)] [.view (bytesI l), .view (bytesI x)]
    (.br ((x.length : Int) == 0) (.ret (.tup [.s (.sl 0 0 l.length cap), .s (.int .i64 0)]) [.view (bytesI l), .view (bytesI x)])
      (.br (!liesB l.length a x.length) (.ret (.tup [.s (.sl 0 0 l.length cap), .s (.int .i64 4)]) [.view (bytesI l), .view (bytesI x)])
        (.all Nat (fun c => l.length ≤ c) fun c => .ret (.tup [.s (.sl 2 0 l.length c), .s (.int .i64 0)]) [.view (bytesI l), .view (bytesI x), .view (bytesI (setL l (ofAt a).toNat x))]))) := by
  intro K ⟨hK1, hK⟩
  refine enter fn_r03_Write rfl nt_r03_Write rfl rfl (fun φ w0 β0 F => ?_)
  refine c_run tt_ok ctPu_ok k_r03_Write [] 60 (by kernel_rfl) ?_
  refine ⟨fun h => ?_, fun hk2 => ⟨⟨by omega, by omega, ha⟩, fun h => ?_, fun h => ?_⟩⟩
  · exact fin_k tt_ok (rs := rs_r03_Write) rfl rfl (hK1 h) [0, 1] rfl rfl rfl rfl rfl rfl
  · exact fin_k tt_ok (rs := rs_r03_Write) rfl rfl ((hK hk2).1 h) [0, 1] rfl rfl rfl rfl rfl rfl
  · have hb : liesB l.length a x.length = true := by simpa using h
    have hi := lies_i ha (by omega) hb
    refine ⟨ha, (l, x, (ofAt a).toNat), ⟨rfl, rfl, rfl, rfl, (Int.toNat_of_nonneg hi.1).symm, by show (ofAt a).toNat + x.length ≤ l.length; omega, hn, hc⟩, fun c h1 => ?_⟩
    exact fin_k tt_ok (rs := rs_r03_Write) rfl rfl ((hK hk2).2 h c h1) [0, 1, 2] rfl rfl rfl rfl rfl rfl
theorem RWrite_n (l : List Int) (cap cb : Nat) (a : Int) (b : Option Addr) : Con Try.prog f_r03_Write [.s (.sl 0 0 l.length cap), .s (.int .i32 a), .s (.raw (.slice b 0 cb))] [.view (bytesI l)]
    (.ret (.tup [.s (.sl 0 0 l.length cap), .s (.int .i64 0)]) [.view (bytesI l)]) := by
  intro K hK
  refine enter fn_r03_Write rfl nt_r03_Write rfl rfl (fun φ w0 β0 F => ?_)
  refine c_run tt_ok ctPu_ok k_r03_Write [] 60 (by kernel_rfl) ?_
  refine ⟨fun h => ?_, fun hk2 => absurd hk2 (by decide)⟩
  exact fin_k tt_ok (rs := rs_r03_Write) rfl rfl hK [0] rfl rfl rfl rfl rfl rfl
noncomputable abbrev eRWrite : Ent := .st (conS (P := Try.prog) (f := f_r03_Write) fun cargs σ0 => match cargs, σ0 with
  | [.s (.sl 0 0 n cap), .s (.int .i32 a), .s (.sl 1 0 k cb)], [.view ys, .view xs] => some ⟨.ex (List Int × List Int) fun p => .ask (ys = bytesI p.1 ∧ n = p.1.length ∧ xs = bytesI p.2 ∧ k = p.2.length ∧ p.1.length ≤ 65536 ∧ I32 a ∧ p.1.length ≤ cap ∧ p.2.length ≤ 4294967296)
      (.br ((p.2.length : Int) == 0) (.ret (.tup [.s (.sl 0 0 p.1.length cap), .s (.int .i64 0)]) [.view (bytesI p.1), .view (bytesI p.2)])
      (.br (!liesB p.1.length a p.2.length) (.ret (.tup [.s (.sl 0 0 p.1.length cap), .s (.int .i64 4)]) [.view (bytesI p.1), .view (bytesI p.2)])
        (.all Nat (fun c => p.1.length ≤ c) fun c => .ret (.tup [.s (.sl 2 0 p.1.length c), .s (.int .i64 0)]) [.view (bytesI p.1), .view (bytesI p.2), .view (bytesI (setL p.1 (ofAt a).toNat p.2))]))), fun K h => by
      obtain ⟨⟨l, x⟩, ⟨e1, e2, e3, e4, h1, h2, h3, h4⟩, h⟩ := h
      subst e1; subst e2; subst e3; subst e4
      exact RWrite_c l x cap cb a h1 h2 h3 h4 K h⟩
  | [.s (.sl 0 0 n cap), .s (.int .i32 a), .s (.raw (.slice b 0 cb))], [.view ys] => some ⟨.ex (List Int) fun l => .ask (ys = bytesI l ∧ n = l.length)
      (.ret (.tup [.s (.sl 0 0 l.length cap), .s (.int .i64 0)]) [.view (bytesI l)]), fun K h => by
      obtain ⟨l, ⟨e1, e2⟩, h⟩ := h
      subst e1; subst e2
      exact RWrite_n l cap cb a b K h⟩
  | _, _ => none)
noncomputable abbrev eRRead : Ent := .st (conS (P := Try.prog) (f := f_r03_Read) fun cargs σ0 => match cargs, σ0 with
  | [.s (.sl 0 0 n cap), .s (.int .i32 a), .s (.int .i64 k)], [.view ys] => some ⟨.ex (List Int) fun l => .ask (ys = bytesI l ∧ n = l.length ∧ l.length ≤ 65536 ∧ I32 a ∧ l.length ≤ cap ∧ k ≤ 9223372036854775807)
      (.br (decide (k < 0)) (.ret (.tup [.s (.raw (.slice none 0 0)), .s (.int .i64 2)]) [.view (bytesI l)])
      (.br (k == 0) (.ret (.tup [.s (.raw (.slice none 0 0)), .s (.int .i64 0)]) [.view (bytesI l)])
        (.br (!liesB l.length a k) (.ret (.tup [.s (.raw (.slice none 0 0)), .s (.int .i64 4)]) [.view (bytesI l)])
          (.all Nat (fun c => k.toNat ≤ c) fun c => .ret (.tup [.s (.sl 1 0 k.toNat c), .s (.int .i64 0)]) [.view (bytesI l), .view (bytesI ((l.drop (ofAt a).toNat).take k.toNat))])))), fun K h => by
      obtain ⟨l, ⟨e1, e2, h1, h2, h3, h4⟩, h⟩ := h
      subst e1; subst e2
      exact RRead_c l cap a k h1 h2 h3 h4 K h⟩
  | _, _ => none)
noncomputable abbrev ctRMv : CT := [(f_r03_Read, eRRead), (f_r03_Write, eRWrite)]
theorem ctRMv_ok : CTok Try.prog ctRMv := ⟨con_ok cal_r03_Read _, con_ok cal_r03_Write _, trivial⟩
theorem RMove_c (l : List Int) (cap : Nat) (to fr k : Int) (hn : l.length ≤ 65536) (ht : I32 to) (hf : I32 fr) (hk : I32 k) (hc : l.length ≤ cap) : Con Try.prog f_r03_Move [.s (.sl 0 0 l.length cap), .s (.int .i32 to), .s (.int .i32 fr), .s (.int .i32 k)] [.view (bytesI l)]
    (.br (k == 0) (.ret (.tup [.s (.sl 0 0 l.length cap), .s (.int .i64 0)]) [.view (bytesI l)])
      (.br (!liesB l.length fr (Uw k)) (.ret (.tup [.s (.sl 0 0 l.length cap), .s (.int .i64 4)]) [.view (bytesI l)])
        (.br (!liesB l.length to (Uw k)) (.ret (.tup [.s (.sl 0 0 l.length cap), .s (.int .i64 4)]) [.view (bytesI l)])
          (.all Nat (fun c => l.length ≤ c) fun c => .ret (.tup [.s (.sl 1 0 l.length c), .s (.int .i64 0)]) [.view (bytesI l), .view (bytesI (setL l (ofAt to).toNat ((l.drop (ofAt fr).toNat).take (Uw k).toNat)))])))) := by
  intro K ⟨hK1, hK⟩
  have eU : IntKind.i64.wrap (IntKind.u32.wrap k) = Uw k := by rw [IntKind.wrap_i64, IntKind.wrap_u32]; unfold Uw; omega
  have hU0 := Uw_lo k
  have hU1 := Uw_hi k
  have e0 : (k == 0) = (IntKind.i64.wrap (IntKind.u32.wrap k) == 0) := by
    rw [eU]
    by_cases h : k = 0
    · subst h; rfl
    · have h' : Uw k ≠ 0 := by unfold I32 at hk; unfold Uw; omega
      rw [beq_eq_false_iff_ne.2 h, beq_eq_false_iff_ne.2 h']
  rw [← eU] at hK
  refine enter fn_r03_Move rfl nt_r03_Move rfl rfl (fun φ w0 β0 F => ?_)
  refine c_run tt_ok ctRMv_ok k_r03_Move [] 60 (by kernel_rfl) ?_
  refine ⟨l, ⟨rfl, rfl, hn, hf, hc, by rw [eU]; omega⟩, fun h => ?_, fun _ => ⟨fun h => ?_, fun hk2 => ⟨fun h => ?_, fun h => ?_⟩⟩⟩
  · exfalso; rw [eU] at h; have := of_decide_eq_true h; omega
  · refine ⟨fun h2 => absurd h2 (by decide), fun _ => ⟨l, ⟨rfl, rfl⟩, ?_⟩⟩
    exact fin_k tt_ok (rs := rs_r03_Move) rfl rfl (hK1 (by rw [e0]; exact h)) [0] rfl rfl rfl rfl rfl rfl
  · have hk2' : (k == 0) = false := by rw [e0]; exact hk2
    refine ⟨fun _ => ?_, fun h2 => absurd h2 (by decide)⟩
    exact fin_k tt_ok (rs := rs_r03_Move) rfl rfl ((hK hk2').1 h) [0] rfl rfl rfl rfl rfl rfl
  · have hk2' : (k == 0) = false := by rw [e0]; exact hk2
    refine fun c1 h1 => ⟨fun h2 => absurd h2 (by decide), fun _ => ?_⟩
    have hb : liesB l.length fr (IntKind.i64.wrap (IntKind.u32.wrap k)) = true := by simpa using h
    have hi := lies_i hf (by rw [eU]; omega) hb
    have hlen : ((l.drop (ofAt fr).toNat).take (IntKind.i64.wrap (IntKind.u32.wrap k)).toNat).length = (IntKind.i64.wrap (IntKind.u32.wrap k)).toNat := by simp; rw [eU] at hi ⊢; omega
    have hlenI : ((((l.drop (ofAt fr).toNat).take (IntKind.i64.wrap (IntKind.u32.wrap k)).toNat).length : Nat) : Int) = IntKind.i64.wrap (IntKind.u32.wrap k) := by rw [hlen, eU]; omega
    refine ⟨(l, (l.drop (ofAt fr).toNat).take (IntKind.i64.wrap (IntKind.u32.wrap k)).toNat), ⟨rfl, rfl, rfl, hlen.symm, hn, ht, hc, by rw [hlen, eU]; omega⟩, fun h5 => ?_, fun _ => ⟨fun h5 => ?_, fun h5 => ?_⟩⟩
    · exfalso; dsimp only at h5; rw [hlenI] at h5; rw [h5] at hk2; cases hk2
    · dsimp only at h5; rw [hlenI] at h5
      exact fin_k tt_ok (rs := rs_r03_Move) rfl rfl (((hK hk2').2 h).1 h5) [0] rfl rfl rfl rfl rfl rfl
    · dsimp only at h5; rw [hlenI] at h5
      refine fun c h6 => ?_
      exact fin_k tt_ok (rs := rs_r03_Move) rfl rfl (((hK hk2').2 h).2 h5 c h6) [0, 2] rfl rfl rfl rfl rfl rfl
end Go.Proofs

namespace Go.Proofs
open Go Go.Sx
set_option maxRecDepth 10000
theorem spanD_c (n : Nat) (xs : List Value) (at_ k : Int) (hn : n ≤ 65536) (ha : I32 at_) (hk : 1 ≤ k) (h0 : 1 ≤ n) : Con Try.prog f_mem_Mem_span [.s (.loc 0 0), .s (.int .i32 at_), .s (.int .i64 k)] [.blk 55 [.sl 1 0 n n], .own 5 1 n xs]
    (.br (spanBad n at_ k) (.ret (.tup [.s (.raw (.slice none 0 0)), .s (.int .i64 4)]) [.blk 55 [.sl 1 0 n n], .own 5 1 n xs])
      (.ret (.tup [.s (.sl 1 (ofAt at_).toNat k.toNat k.toNat), .s (.int .i64 0)]) [.blk 55 [.sl 1 0 n n], .own 5 1 n xs])) := by
  intro K ⟨hK1, hK2⟩
  refine enter fn_mem_Mem_span rfl nt_mem_Mem_span rfl rfl (fun φ w0 β0 F => ?_)
  refine c_run tt_ok ctN_ok k_mem_Mem_span [] 60 (by kernel_rfl) ?_
  unfold I32 at ha
  have e0 : IntKind.i64.wrap (IntKind.i64.wrap at_ - -2147483648) = ofAt at_ := by unfold ofAt; rw [wrap64 (n := at_) (by omega) (by omega), wrap64 (by omega) (by omega)]; omega
  have e1 : IntKind.i64.wrap ((n : Int) - ofAt at_) = n - ofAt at_ := by unfold ofAt; rw [wrap64 (by omega) (by omega)]
  have e2 : (bif decide (IntKind.i64.wrap (IntKind.i64.wrap at_ - -2147483648) ≥ (n : Int)) then true else decide (k > IntKind.i64.wrap ((n : Int) - IntKind.i64.wrap (IntKind.i64.wrap at_ - -2147483648)))) = spanBad n at_ k := by rw [e0, e1]; rfl
  refine ⟨fun h1 => ?_, fun h1 => ⟨fun h2 => ?_, fun h2 => ?_⟩⟩
  · exfalso; simp at h1; omega
  · exact fin_k tt_ok (rs := rs_mem_Mem_span) rfl rfl (hK1 (e2 ▸ h2)) [0, 1] rfl rfl rfl rfl rfl rfl
  · have hb : spanBad n at_ k = false := e2 ▸ h2
    have hi : (0 : Int) ≤ ofAt at_ ∧ ofAt at_ + k ≤ n := by
      unfold spanBad at hb
      by_cases h : ofAt at_ ≥ n
      · simp [h] at hb
      · simp [h] at hb; unfold ofAt at *; omega
    have e3 : IntKind.i64.wrap (IntKind.i64.wrap (IntKind.i64.wrap at_ - -2147483648) + k) = ofAt at_ + k := by rw [e0, wrap64 (by omega) (by omega)]
    refine ⟨(ofAt at_).toNat, (ofAt at_).toNat + k.toNat, (ofAt at_).toNat + k.toNat, ⟨_, _, _, rfl, rfl, rfl, ?_, ?_, ?_⟩, ⟨by omega, by omega, by omega⟩, fun off ho => ?_⟩
    · show _ = _; rw [e0]; omega
    · show _ = _; rw [e3]; omega
    · show _ = _; rw [e3]; omega
    · have ho' := ho (by omega)
      have ho2 : off = (ofAt at_).toNat := by rw [ho']; simp
      subst ho2
      refine fin_k tt_ok (rs := rs_mem_Mem_span) rfl rfl (hK2 hb) [0, 1] ?_ rfl rfl rfl rfl rfl
      rw [show (ofAt at_).toNat + k.toNat - (ofAt at_).toNat = k.toNat by omega]
      rfl
noncomputable abbrev eSpanD : Ent := .st (conS (P := Try.prog) (f := f_mem_Mem_span) fun cargs σ0 => match cargs, σ0 with
  | [.s (.loc 0 0), .s (.int .i32 a), .s (.int .i64 k)], [.blk 55 [.sl 1 0 n n'], .own 5 1 c xs] => some ⟨.ask (n' = n ∧ c = n ∧ n ≤ 65536 ∧ I32 a ∧ 1 ≤ k ∧ 1 ≤ n)
      (.br (spanBad n a k) (.ret (.tup [.s (.raw (.slice none 0 0)), .s (.int .i64 4)]) [.blk 55 [.sl 1 0 n n], .own 5 1 n xs])
        (.ret (.tup [.s (.sl 1 (ofAt a).toNat k.toNat k.toNat), .s (.int .i64 0)]) [.blk 55 [.sl 1 0 n n], .own 5 1 n xs])), fun K h => by
      obtain ⟨⟨e1, e2, h1, h2, h3, h5⟩, h6⟩ := h
      subst e1; subst e2
      exact spanD_c _ xs a k h1 h2 h3 h5 K h6⟩
  | _, _ => none)
noncomputable abbrev ctRD : CT := [(f_mem_Mem_none, eNone), (f_mem_Mem_span, eSpanD)]
theorem ctRD_ok : CTok Try.prog ctRD := ⟨con_ok cal_mem_Mem_none _, con_ok cal_mem_Mem_span _, trivial⟩
theorem ReadD_c (l : List Int) (at_ k : Int) (hn : l.length ≤ 65536) (ha : I32 at_) (h0 : 1 ≤ l.length) : Con Try.prog f_mem_Mem_Read [.s (.loc 0 0), .s (.int .i32 at_), .s (.int .i64 k)] [mBox l.length, mOwn l]
    (.br (decide (k < 0)) (.ret (.tup [.s (.raw (.slice none 0 0)), .s (.int .i64 2)]) [mBox l.length, mOwn l])
      (.br (k == 0) (.ret (.tup [.s (.raw (.slice none 0 0)), .s (.int .i64 0)]) [mBox l.length, mOwn l])
        (.br (spanBad l.length at_ k) (.ret (.tup [.s (.raw (.slice none 0 0)), .s (.int .i64 4)]) [mBox l.length, mOwn l])
          (.ret (.tup [.s (.sl 2 0 k.toNat k.toNat), .s (.int .i64 0)]) [mBox l.length, mOwn l, mOwn ((l.drop (ofAt at_).toNat).take k.toNat)])))) := by
  intro K ⟨hK1, hK⟩
  refine enter fn_mem_Mem_Read rfl nt_mem_Mem_Read rfl rfl (fun φ w0 β0 F => ?_)
  refine c_run tt_ok ctRD_ok k_mem_Mem_Read [] 60 (by kernel_rfl) ?_
  refine ⟨fun h => ?_, fun _ => ⟨fun h => ?_, fun hk1 => ⟨fun h => ?_, fun hk2 => ⟨⟨rfl, rfl, hn, ha, ?_, h0⟩, fun h => ⟨fun h2 => ?_, fun h2 => ?_⟩, fun h => ⟨fun h2 => ?_, fun h2 => ?_⟩⟩⟩⟩⟩
  · simp at h; subst h; simp at h0
  · exact fin_k tt_ok (rs := rs_mem_Mem_Read) rfl rfl (hK1 h) [0, 1] rfl rfl rfl rfl rfl rfl
  · exact fin_k tt_ok (rs := rs_mem_Mem_Read) rfl rfl ((hK hk1).1 h) [0, 1] rfl rfl rfl rfl rfl rfl
  · simp at hk1 hk2; omega
  · exact fin_k tt_ok (rs := rs_mem_Mem_Read) rfl rfl (((hK hk1).2 hk2).1 h) [0, 1] rfl rfl rfl rfl rfl rfl
  · exact absurd h2 (by decide)
  · exact absurd h2 (by decide)
  · simp at hk1 hk2
    have hi := spanBad_i ha h
    refine ⟨k.toNat, ⟨by omega, by omega, by simp only [maxLen]; omega, by omega⟩, ?_⟩
    refine ⟨k.toNat, ⟨by simp, by simp, by simp; omega, by rw [seg_bytesI]; exact bytesI_one _⟩, ?_⟩
    refine fin_k tt_ok (rs := rs_mem_Mem_Read) rfl rfl (((hK (by simpa using hk1)).2 (by simpa using hk2)).2 h) [0, 1, 2] rfl ?_ rfl rfl rfl rfl
    have hq : ((l.drop (ofAt at_).toNat).take k.toNat).length = k.toNat := by simp; omega
    show pickL [mBox l.length, mOwn l, Ch.own 5 1 k.toNat (setV (List.replicate k.toNat (Value.int .u8 0)) 0 (seg (bytesI l) (ofAt at_).toNat k.toNat))] [0, 1, 2] = some (List.map (Ch.rn fun k => [0, 1, 2].getD k 0)
        [mBox l.length, mOwn l, Ch.own 5 1 ((l.drop (ofAt at_).toNat).take k.toNat).length (bytesI ((l.drop (ofAt at_).toNat).take k.toNat))])
    rw [seg_bytesI, copy_full _ _ (by rw [hq]; simp), hq]; rfl
theorem WriteD_v (l b : List Int) (cb : Nat) (at_ : Int) (hn : l.length ≤ 65536) (ha : I32 at_) (h0 : 1 ≤ l.length) (hb : b.length ≤ 4294967296) : Con Try.prog f_mem_Mem_Write [.s (.loc 0 0), .s (.int .i32 at_), .s (.sl 1 0 b.length cb)] [.blk 55 [.sl 2 0 l.length l.length], .view (bytesI b), mOwn l]
    (.br ((b.length : Int) == 0) (.ret (.t (.s (.int .i64 0))) [.blk 55 [.sl 2 0 l.length l.length], .view (bytesI b), mOwn l])
      (.br (spanBad l.length at_ b.length) (.ret (.t (.s (.int .i64 4))) [.blk 55 [.sl 2 0 l.length l.length], .view (bytesI b), mOwn l])
        (.ret (.t (.s (.int .i64 0))) [.blk 55 [.sl 2 0 l.length l.length], .view (bytesI b), .own 5 1 l.length (bytesI (setL l (ofAt at_).toNat b))]))) := by
  intro K ⟨hK1, hK⟩
  refine enter fn_mem_Mem_Write rfl nt_mem_Mem_Write rfl rfl (fun φ w0 β0 F => ?_)
  refine c_run tt_ok ctRD_ok k_mem_Mem_Write [] 60 (by kernel_rfl) ?_
  refine ⟨fun h => ?_, fun _ => ⟨fun h => ?_, fun hk2 => ⟨⟨rfl, rfl, hn, ha, ?_, h0⟩, fun h => ?_, fun h => ?_⟩⟩⟩
  · simp at h; subst h; simp at h0
  · exact fin_k tt_ok (rs := rs_mem_Mem_Write) rfl rfl (hK1 h) [0, 1, 2] rfl rfl rfl rfl rfl rfl
  · simp at hk2; have : b.length ≠ 0 := fun e => hk2 (List.eq_nil_of_length_eq_zero e); omega
  · exact fin_k tt_ok (rs := rs_mem_Mem_Write) rfl rfl ((hK hk2).1 h) [0, 1, 2] rfl rfl rfl rfl rfl rfl
  · have hi := spanBad_i ha h
    refine ⟨b.length, ⟨by simp, by simp; omega, by simp, by rw [seg_bytesI]; exact bytesI_one _⟩, ?_⟩
    refine fin_k tt_ok (rs := rs_mem_Mem_Write) rfl rfl ((hK hk2).2 h) [0, 1, 2] rfl ?_ rfl rfl rfl rfl
    show pickL [Ch.blk 55 [.sl 2 0 l.length l.length], Ch.view (bytesI b), Ch.own 5 1 l.length (setV (bytesI l) (ofAt at_).toNat (seg (bytesI b) 0 b.length))] [0, 1, 2] = _
    rw [seg_bytesI, List.drop_zero, List.take_of_length_le (Nat.le_refl _), setV_bytesI]; rfl
theorem WriteD_n (l : List Int) (at_ : Int) (b : Option Addr) (cb : Nat) (h0 : 1 ≤ l.length) : Con Try.prog f_mem_Mem_Write [.s (.loc 0 0), .s (.int .i32 at_), .s (.raw (.slice b 0 cb))] [mBox l.length, mOwn l]
    (.ret (.t (.s (.int .i64 0))) [mBox l.length, mOwn l]) := by
  intro K hK
  refine enter fn_mem_Mem_Write rfl nt_mem_Mem_Write rfl rfl (fun φ w0 β0 F => ?_)
  refine c_run tt_ok ctRD_ok k_mem_Mem_Write [] 60 (by kernel_rfl) ?_
  refine ⟨fun h => ?_, fun _ => ⟨fun h => ?_, fun h => absurd h (by decide)⟩⟩
  · simp at h; subst h; simp at h0
  · exact fin_k tt_ok (rs := rs_mem_Mem_Write) rfl rfl hK [0, 1] rfl rfl rfl rfl rfl rfl
/-- What a method finds: a memory of a fit size. -/
structure MOK (l : List Int) : Prop where
  lo : 1024 ≤ l.length
  hi : l.length ≤ 65536
  al : l.length % 4 = 0
  byt : ∀ b ∈ l, 0 ≤ b ∧ b < 256
abbrev mb2 (n : Nat) : Ch := .blk 55 [.sl 2 0 n n]
noncomputable abbrev eWriteD : Ent := .st (conS (P := Try.prog) (f := f_mem_Mem_Write) fun cargs σ0 => match cargs, σ0 with
  | [.s (.loc 0 0), .s (.int .i32 a), .s (.sl 1 0 k cb)], [.blk 55 [.sl 2 0 n n'], .view ys, .own 5 1 c xs] => some ⟨.ex (List Int × List Int) fun p => .ask (xs = bytesI p.1 ∧ ys = bytesI p.2 ∧ n = p.1.length ∧ n' = p.1.length ∧ c = p.1.length ∧ k = p.2.length ∧ MOK p.1 ∧ I32 a ∧ p.2.length ≤ 4294967296)
      (.br ((p.2.length : Int) == 0) (.ret (.t (.s (.int .i64 0))) [mb2 p.1.length, .view (bytesI p.2), mOwn p.1])
      (.br (spanBad p.1.length a p.2.length) (.ret (.t (.s (.int .i64 4))) [mb2 p.1.length, .view (bytesI p.2), mOwn p.1])
        (.ret (.t (.s (.int .i64 0))) [mb2 p.1.length, .view (bytesI p.2), .own 5 1 p.1.length (bytesI (setL p.1 (ofAt a).toNat p.2))]))), fun K h => by
      obtain ⟨⟨l, b⟩, ⟨e1, e2, e3, e4, e5, e6, h1, h2, h3⟩, h⟩ := h
      subst e1; subst e2; subst e3; subst e4; subst e5; subst e6
      have := h1.lo
      exact WriteD_v l b cb a h1.hi h2 (by dsimp only at this; omega) h3 K h⟩
  | [.s (.loc 0 0), .s (.int .i32 a), .s (.raw (.slice b 0 cb))], [.blk 55 [.sl 1 0 n n'], .own 5 1 c xs] => some ⟨.ex (List Int) fun l => .ask (xs = bytesI l ∧ n = l.length ∧ n' = l.length ∧ c = l.length ∧ MOK l) (.ret (.t (.s (.int .i64 0))) [mBox l.length, mOwn l]), fun K h => by
      obtain ⟨l, ⟨e1, e2, e3, e4, h1⟩, h⟩ := h
      subst e1; subst e2; subst e3; subst e4
      have := h1.lo
      exact WriteD_n l a b cb (by omega) K h⟩
  | _, _ => none)
noncomputable abbrev eSetByteD : Ent := .st (conS (P := Try.prog) (f := f_mem_Mem_SetByte) fun cargs σ0 => match cargs, σ0 with
  | [.s (.loc 0 0), .s (.int .i32 a), .s (.int .u8 v)], [.blk 55 [.sl 1 0 n n'], .own 5 1 c xs] => some ⟨.ex (List Int) fun l => .ask (xs = bytesI l ∧ n = l.length ∧ n' = l.length ∧ c = l.length ∧ MOK l ∧ I32 a)
      (.br (spanBad l.length a 1) (.ret (.t (.s (.int .i64 4))) [mBox l.length, mOwn l])
      (.ret (.t (.s (.int .i64 0))) [mBox l.length, .own 5 1 l.length (bytesI (setL l (ofAt a).toNat [v]))])), fun K h => by
      obtain ⟨l, ⟨e1, e2, e3, e4, h1, h2⟩, h⟩ := h
      subst e1; subst e2; subst e3; subst e4
      have h0 : 1 ≤ l.length := by have := h1.lo; omega
      exact SetByte_c l a v h1.hi h2 h0 K h⟩
  | _, _ => none)
noncomputable abbrev eSetWordD : Ent := .st (conS (P := Try.prog) (f := f_mem_Mem_SetWord) fun cargs σ0 => match cargs, σ0 with
  | [.s (.loc 0 0), .s (.int .i32 a), .s (.int .i32 v)], [.blk 55 [.sl 1 0 n n'], .own 5 1 c xs] => some ⟨.ex (List Int) fun l => .ask (xs = bytesI l ∧ n = l.length ∧ n' = l.length ∧ c = l.length ∧ MOK l ∧ I32 a)
      (.br (spanBad l.length (wAt a) 4) (.ret (.t (.s (.int .i64 4))) [mBox l.length, mOwn l])
      (.ret (.t (.s (.int .i64 0))) [mBox l.length, .own 5 1 l.length (bytesI (setW l (ofAt (wAt a)).toNat v))])), fun K h => by
      obtain ⟨l, ⟨e1, e2, e3, e4, h1, h2⟩, h⟩ := h
      subst e1; subst e2; subst e3; subst e4
      have h0 : 1 ≤ l.length := by have := h1.lo; omega
      exact SetWord_c l a v h1.hi h2 h0 K h⟩
  | _, _ => none)
noncomputable abbrev eMoveD : Ent := .st (conS (P := Try.prog) (f := f_mem_Mem_Move) fun cargs σ0 => match cargs, σ0 with
  | [.s (.loc 0 0), .s (.int .i32 to), .s (.int .i32 fr), .s (.int .i32 k)], [.blk 55 [.sl 1 0 n n'], .own 5 1 c xs] => some ⟨.ex (List Int) fun l => .ask (xs = bytesI l ∧ n = l.length ∧ n' = l.length ∧ c = l.length ∧ MOK l ∧ (I32 to ∧ I32 fr ∧ I32 k))
      (.br (k == 0) (.ret (.t (.s (.int .i64 0))) [mBox l.length, mOwn l])
      (.br (spanBad l.length fr (Uw k)) (.ret (.t (.s (.int .i64 4))) [mBox l.length, mOwn l])
        (.br (spanBad l.length to (Uw k)) (.ret (.t (.s (.int .i64 4))) [mBox l.length, mOwn l])
          (.ret (.t (.s (.int .i64 0))) [mBox l.length, .own 5 1 l.length (bytesI (setL l (ofAt to).toNat ((l.drop (ofAt fr).toNat).take (Uw k).toNat)))])))), fun K h => by
      obtain ⟨l, ⟨e1, e2, e3, e4, h1, h2⟩, h⟩ := h
      subst e1; subst e2; subst e3; subst e4
      have h0 : 1 ≤ l.length := by have := h1.lo; omega
      exact Move_c l to fr k h1.hi h2.1 h2.2.1 h2.2.2 h0 K h⟩
  | _, _ => none)
noncomputable abbrev eReadD : Ent := .st (conS (P := Try.prog) (f := f_mem_Mem_Read) fun cargs σ0 => match cargs, σ0 with
  | [.s (.loc 0 0), .s (.int .i32 a), .s (.int .i64 k)], [.blk 55 [.sl 1 0 n n'], .own 5 1 c xs] => some ⟨.ex (List Int) fun l => .ask (xs = bytesI l ∧ n = l.length ∧ n' = l.length ∧ c = l.length ∧ MOK l ∧ I32 a)
      (.br (decide (k < 0)) (.ret (.tup [.s (.raw (.slice none 0 0)), .s (.int .i64 2)]) [mBox l.length, mOwn l])
      (.br (k == 0) (.ret (.tup [.s (.raw (.slice none 0 0)), .s (.int .i64 0)]) [mBox l.length, mOwn l])
        (.br (spanBad l.length a k) (.ret (.tup [.s (.raw (.slice none 0 0)), .s (.int .i64 4)]) [mBox l.length, mOwn l])
          (.ret (.tup [.s (.sl 2 0 k.toNat k.toNat), .s (.int .i64 0)]) [mBox l.length, mOwn l, mOwn ((l.drop (ofAt a).toNat).take k.toNat)])))), fun K h => by
      obtain ⟨l, ⟨e1, e2, e3, e4, h1, h2⟩, h⟩ := h
      subst e1; subst e2; subst e3; subst e4
      have h0 : 1 ≤ l.length := by have := h1.lo; omega
      exact ReadD_c l a k h1.hi h2 h0 K h⟩
  | _, _ => none)
noncomputable abbrev eByteD : Ent := .st (conS (P := Try.prog) (f := f_mem_Mem_Byte) fun cargs σ0 => match cargs, σ0 with
  | [.s (.loc 0 0), .s (.int .i32 a)], [.blk 55 [.sl 1 0 n n'], .own 5 1 c xs] => some ⟨.ex (List Int) fun l => .ask (xs = bytesI l ∧ n = l.length ∧ n' = l.length ∧ c = l.length ∧ MOK l ∧ I32 a)
      (.br (spanBad l.length a 1) (.ret (.tup [.s (.int .u8 0), .s (.int .i64 4)]) [mBox l.length, mOwn l])
      (.ret (.tup [.s (.int .u8 (l.getD (ofAt a).toNat 0)), .s (.int .i64 0)]) [mBox l.length, mOwn l])), fun K h => by
      obtain ⟨l, ⟨e1, e2, e3, e4, h1, h2⟩, h⟩ := h
      subst e1; subst e2; subst e3; subst e4
      have h0 : 1 ≤ l.length := by have := h1.lo; omega
      exact Byte_c l a h1.hi h2 h0 K h⟩
  | _, _ => none)
noncomputable abbrev eWordD : Ent := .st (conS (P := Try.prog) (f := f_mem_Mem_Word) fun cargs σ0 => match cargs, σ0 with
  | [.s (.loc 0 0), .s (.int .i32 a)], [.blk 55 [.sl 1 0 n n'], .own 5 1 c xs] => some ⟨.ex (List Int) fun l => .ask (xs = bytesI l ∧ n = l.length ∧ n' = l.length ∧ c = l.length ∧ MOK l ∧ I32 a)
      (.br (spanBad l.length (wAt a) 4) (.ret (.tup [.s (.int .i32 0), .s (.int .i64 4)]) [mBox l.length, mOwn l])
      (.ret (.tup [.s (.int .i32 (getW l (ofAt (wAt a)).toNat)), .s (.int .i64 0)]) [mBox l.length, mOwn l])), fun K h => by
      obtain ⟨l, ⟨e1, e2, e3, e4, h1, h2⟩, h⟩ := h
      subst e1; subst e2; subst e3; subst e4
      have h0 : 1 ≤ l.length := by have := h1.lo; omega
      exact Word_c l a h1.hi h2 h0 h1.byt K h⟩
  | _, _ => none)
noncomputable abbrev eRSetByteD : Ent := .st (conS (P := Try.prog) (f := f_r03_SetByte) fun cargs σ0 => match cargs, σ0 with
  | [.s (.sl 0 0 n cap), .s (.int .i32 a), .s (.int .u8 v)], [.view xs] => some ⟨.ex (List Int) fun l => .ask (xs = bytesI l ∧ n = l.length ∧ MOK l ∧ l.length ≤ cap ∧ I32 a)
      (MemOut (!liesB l.length a 1) l (setL l (ofAt a).toNat [v]) cap), fun K h => by
      obtain ⟨l, ⟨e1, e2, h1, h3, h2⟩, h⟩ := h
      subst e1; subst e2
      exact RSetByte_c l cap a v h1.hi h2 h3 K h⟩
  | _, _ => none)
noncomputable abbrev eRSetWordD : Ent := .st (conS (P := Try.prog) (f := f_r03_SetWord) fun cargs σ0 => match cargs, σ0 with
  | [.s (.sl 0 0 n cap), .s (.int .i32 a), .s (.int .i32 v)], [.view xs] => some ⟨.ex (List Int) fun l => .ask (xs = bytesI l ∧ n = l.length ∧ MOK l ∧ l.length ≤ cap ∧ I32 a)
      (MemOut (!liesB l.length a 1) l (setW l (ofAt (wAt a)).toNat v) cap), fun K h => by
      obtain ⟨l, ⟨e1, e2, h1, h3, h2⟩, h⟩ := h
      subst e1; subst e2
      exact RSetWord_c l cap a v h1.hi h1.al h2 h3 K h⟩
  | _, _ => none)
noncomputable abbrev eRMoveD : Ent := .st (conS (P := Try.prog) (f := f_r03_Move) fun cargs σ0 => match cargs, σ0 with
  | [.s (.sl 0 0 n cap), .s (.int .i32 to), .s (.int .i32 fr), .s (.int .i32 k)], [.view xs] => some ⟨.ex (List Int) fun l => .ask (xs = bytesI l ∧ n = l.length ∧ MOK l ∧ l.length ≤ cap ∧ (I32 to ∧ I32 fr ∧ I32 k))
      (.br (k == 0) (.ret (.tup [.s (.sl 0 0 l.length cap), .s (.int .i64 0)]) [.view (bytesI l)])
      (.br (!liesB l.length fr (Uw k)) (.ret (.tup [.s (.sl 0 0 l.length cap), .s (.int .i64 4)]) [.view (bytesI l)])
        (.br (!liesB l.length to (Uw k)) (.ret (.tup [.s (.sl 0 0 l.length cap), .s (.int .i64 4)]) [.view (bytesI l)])
          (.all Nat (fun c => l.length ≤ c) fun c => .ret (.tup [.s (.sl 1 0 l.length c), .s (.int .i64 0)]) [.view (bytesI l), .view (bytesI (setL l (ofAt to).toNat ((l.drop (ofAt fr).toNat).take (Uw k).toNat)))])))), fun K h => by
      obtain ⟨l, ⟨e1, e2, h1, h3, h2⟩, h⟩ := h
      subst e1; subst e2
      exact RMove_c l cap to fr k h1.hi h2.1 h2.2.1 h2.2.2 h3 K h⟩
  | _, _ => none)
noncomputable abbrev eRByteD : Ent := .st (conS (P := Try.prog) (f := f_r03_Byte) fun cargs σ0 => match cargs, σ0 with
  | [.s (.sl 0 0 n cap), .s (.int .i32 a)], [.view xs] => some ⟨.ex (List Int) fun l => .ask (xs = bytesI l ∧ n = l.length ∧ MOK l ∧ l.length ≤ cap ∧ I32 a)
      (.br (liesB l.length a 1) (.ret (.tup [.s (.int .u8 (l.getD (ofAt a).toNat 0)), .s (.int .i64 0)]) [.view (bytesI l)])
      (.ret (.tup [.s (.int .u8 0), .s (.int .i64 4)]) [.view (bytesI l)])), fun K h => by
      obtain ⟨l, ⟨e1, e2, h1, h3, h2⟩, h⟩ := h
      subst e1; subst e2
      exact RByte_c l cap a h1.hi h2 K h⟩
  | _, _ => none)
noncomputable abbrev eRWordD : Ent := .st (conS (P := Try.prog) (f := f_r03_Word) fun cargs σ0 => match cargs, σ0 with
  | [.s (.sl 0 0 n cap), .s (.int .i32 a)], [.view xs] => some ⟨.ex (List Int) fun l => .ask (xs = bytesI l ∧ n = l.length ∧ MOK l ∧ l.length ≤ cap ∧ I32 a)
      (.br (liesB l.length a 1) (.ret (.tup [.s (.int .i32 (getW l (ofAt (wAt a)).toNat)), .s (.int .i64 0)]) [.view (bytesI l)])
      (.ret (.tup [.s (.int .i32 0), .s (.int .i64 4)]) [.view (bytesI l)])), fun K h => by
      obtain ⟨l, ⟨e1, e2, h1, h3, h2⟩, h⟩ := h
      subst e1; subst e2
      exact RWord_c l cap a h1.hi h1.al h2 h1.byt K h⟩
  | _, _ => none)
theorem Same_nn : Con Try.prog f_r03_Same [.s (.raw (.slice none 0 0)), .s (.raw (.slice none 0 0))] [] (.ret (.t (.s (.bool true))) []) := by
  intro K hK
  refine enter fn_r03_Same rfl nt_r03_Same rfl rfl (fun φ w0 β0 F => ?_)
  refine c_run tt_ok (ct := []) trivial k_r03_Same [] 60 (by kernel_rfl) ?_
  exact fin_k tt_ok (rs := rs_r03_Same) rfl rfl hK [] rfl rfl rfl rfl rfl rfl
noncomputable abbrev eSameD : Ent := .st (conS (P := Try.prog) (f := f_r03_Same) fun cargs σ0 => match cargs, σ0 with
  | [.s (.raw (.slice none 0 0)), .s (.raw (.slice none 0 0))], [] => some ⟨.ret (.t (.s (.bool true))) [], fun K h => Same_nn K h⟩
  | [.s (.sl 0 0 n ca), .s (.sl 1 0 m cb)], [.own 5 1 c xs, .view ys] => some ⟨.ex (List Int × List Int) fun p => .ask (xs = bytesI p.1 ∧ ys = bytesI p.2 ∧ n = p.1.length ∧ m = p.2.length ∧ c = ca)
      (.ret (.t (.s (.bool (sameB p.1 p.2)))) [.own 5 1 ca (bytesI p.1), .view (bytesI p.2)]), fun K h => by
      obtain ⟨⟨a, b⟩, ⟨e1, e2, e3, e4, e5⟩, h⟩ := h
      subst e1; subst e2; subst e3; subst e4; subst e5
      exact Same_ov a b _ _ K h⟩
  | _, _ => none)
noncomputable abbrev ctDo : CT := [(f_mem_Mem_SetByte, eSetByteD), (f_mem_Mem_SetWord, eSetWordD), (f_mem_Mem_Write, eWriteD), (f_mem_Mem_Move, eMoveD), (f_mem_Mem_Read, eReadD), (f_mem_Mem_Byte, eByteD), (f_mem_Mem_Word, eWordD), (f_r03_SetByte, eRSetByteD), (f_r03_SetWord, eRSetWordD), (f_r03_Write, eRWrite), (f_r03_Move, eRMoveD), (f_r03_Read, eRRead), (f_r03_Byte, eRByteD), (f_r03_Word, eRWordD), (f_r03_Same, eSameD)]
theorem ctDo_ok : CTok Try.prog ctDo := ⟨con_ok cal_mem_Mem_SetByte _, con_ok cal_mem_Mem_SetWord _, con_ok cal_mem_Mem_Write _, con_ok cal_mem_Mem_Move _, con_ok cal_mem_Mem_Read _, con_ok cal_mem_Mem_Byte _, con_ok cal_mem_Mem_Word _, con_ok cal_r03_SetByte _, con_ok cal_r03_SetWord _, con_ok cal_r03_Write _, con_ok cal_r03_Move _, con_ok cal_r03_Read _, con_ok cal_r03_Byte _, con_ok cal_r03_Word _, con_ok cal_r03_Same _, trivial⟩
end Go.Proofs

namespace Go.Proofs
open Go Go.Sx
set_option maxRecDepth 10000
theorem mok_set {l x : List Int} {i : Nat} (h : MOK l) (hi : i + x.length ≤ l.length) (hx : ∀ b ∈ x, 0 ≤ b ∧ b < 256) : MOK (setL l i x) := by
  have e := setL_length hi
  refine ⟨by rw [e]; exact h.lo, by rw [e]; exact h.hi, by rw [e]; exact h.al, fun b hb => ?_⟩
  unfold setL at hb
  rcases List.mem_append.1 hb with hb | hb
  · rcases List.mem_append.1 hb with hb | hb
    · exact h.byt b (List.mem_of_mem_take hb)
    · exact hx b hb
  · exact h.byt b (List.mem_of_mem_drop hb)
theorem mok_setW {l : List Int} {i : Nat} (v : Int) (h : MOK l) (hi : i + 4 ≤ l.length) : MOK (setW l i v) := by
  have e : (setW l i v).length = l.length := stW_length hi 4 (by decide)
  exact ⟨by rw [e]; exact h.lo, by rw [e]; exact h.hi, by rw [e]; exact h.al, setW_bytes hi h.byt⟩
theorem u8_wrap (v : Int) : 0 ≤ IntKind.u8.wrap v ∧ IntKind.u8.wrap v < 256 := by rw [IntKind.wrap_u8]; omega
theorem tslb {i off n c : Nat} {b : Bool} (h : b = true) : FV.tup [.s (.sl i off n c), .s (.bool b)] = FV.tup [.s (.sl i off n c), .s (.bool true)] := by rw [h]
abbrev DoOut_does_v (l : List Int) (x : List Int) : Out := .all (List Int × Nat) (fun p => MOK p.1 ∧ p.1.length = l.length ∧ l.length ≤ p.2) fun p => .ret (.tup [.s (.sl 4 0 l.length p.2), .s (.bool true)]) [.blk 55 [.sl 3 0 l.length l.length], .view (bytesI l), .view (bytesI x), .own 5 1 l.length (bytesI p.1), .view (bytesI p.1)]
set_option maxHeartbeats 4000000 in
theorem does_v (l : List Int) (x : List Int) (cap cx : Nat) (wh at_ to v n : Int) (hm : MOK l) (hc : l.length ≤ cap) (ha : I32 at_) (ht : I32 to) (hv : I32 v) (hn : n ≤ 9223372036854775807) (hx : x.length ≤ 70000) (hxb : ∀ b ∈ x, 0 ≤ b ∧ b < 256) :
    Con Try.prog f_l03_does [.s (.loc 0 0), .s (.sl 1 0 l.length cap), .agg [.int .u8 wh, .int .i32 at_, .int .i32 to, .int .i32 v, .int .i64 n, .sl 2 0 x.length cx]] [.blk 55 [.sl 3 0 l.length l.length], .view (bytesI l), .view (bytesI x), mOwn l] (DoOut_does_v l x) := by
  intro K hK
  have hlo := hm.lo
  have hhi := hm.hi
  refine enter fn_l03_does rfl nt_l03_does rfl rfl (fun φ w0 β0 F => ?_)
  refine c_run tt_ok ctDo_ok k_l03_does [] 60 (by kernel_rfl) ?_
  refine ⟨fun _ => ?_, fun _ => ⟨fun _ => ?_, fun _ => ⟨fun _ => ?_, fun _ => ⟨fun _ => ?_, fun _ => ⟨fun _ => ?_, fun _ => ?_⟩⟩⟩⟩⟩
  · have e1 := lies_span l.length at_ 1 (by decide)
    refine ⟨l, ⟨rfl, rfl, rfl, rfl, hm, ha⟩, fun h1 => ⟨l, ⟨rfl, rfl, hm, hc, ha⟩, fun h2 => ?_, fun h2 => ?_⟩, fun h1 => ⟨l, ⟨rfl, rfl, hm, hc, ha⟩, fun h2 => ?_, fun h2 c h9 => ?_⟩⟩
    · refine WpE.into (aliasSlot 6 1 0 l.length cap rfl rfl) ?_
      refine fin_k tt_ok (rs := rs_l03_does) rfl rfl (hK (l, cap) ⟨hm, rfl, hc⟩) [0, 1, 2, 3, 5] rfl ?_ rfl rfl rfl rfl
      rw [seg_full]; rfl
    · exfalso; rw [e1, h1] at h2; cases h2
    · exfalso; rw [e1, h1] at h2; cases h2
    · have hi := spanBad_i ha h1
      have h8 : (ofAt at_).toNat + [IntKind.u8.wrap v].length ≤ l.length := by simp; omega
      exact fin_k tt_ok (rs := rs_l03_does) rfl rfl (hK (setL l (ofAt at_).toNat [IntKind.u8.wrap v], c) ⟨mok_set hm h8 (fun b hb => by rw [List.mem_singleton.1 hb]; exact u8_wrap v), setL_length h8, h9⟩) [0, 1, 2, 3, 5] rfl rfl rfl rfl rfl rfl
  · have e1 := span_word (n := l.length) ha hm.al
    refine ⟨l, ⟨rfl, rfl, rfl, rfl, hm, ha⟩, fun h1 => ⟨l, ⟨rfl, rfl, hm, hc, ha⟩, fun h2 => ?_, fun h2 => ?_⟩, fun h1 => ⟨l, ⟨rfl, rfl, hm, hc, ha⟩, fun h2 => ?_, fun h2 c h9 => ?_⟩⟩
    · refine WpE.into (aliasSlot 6 1 0 l.length cap rfl rfl) ?_
      refine fin_k tt_ok (rs := rs_l03_does) rfl rfl (hK (l, cap) ⟨hm, rfl, hc⟩) [0, 1, 2, 3, 5] rfl ?_ rfl rfl rfl rfl
      rw [seg_full]; rfl
    · exfalso; rw [← e1, h1] at h2; cases h2
    · exfalso; rw [← e1, h1] at h2; cases h2
    · have hi := spanBad_i (wAt_i32 ha) h1
      have h8 : (ofAt (wAt at_)).toNat + 4 ≤ l.length := by omega
      exact fin_k tt_ok (rs := rs_l03_does) rfl rfl (hK (setW l (ofAt (wAt at_)).toNat v, c) ⟨mok_setW v hm h8, stW_length h8 4 (by decide), h9⟩) [0, 1, 2, 3, 5] rfl rfl rfl rfl rfl rfl
  · have e1 := lies_span l.length at_ x.length (by omega)
    refine ⟨(l, x), ⟨rfl, rfl, rfl, rfl, rfl, rfl, hm, ha, by dsimp only; omega⟩, fun h1 => ⟨(l, x), ⟨rfl, rfl, rfl, rfl, hhi, ha, hc, by dsimp only; omega⟩, fun h2 => ?_, fun h2 => ?_⟩, fun h1 => ⟨fun h3 => ⟨(l, x), ⟨rfl, rfl, rfl, rfl, hhi, ha, hc, by dsimp only; omega⟩, fun h2 => ?_, fun h2 => ⟨fun h4 => ?_, fun h4 => ?_⟩⟩, fun h3 => ⟨(l, x), ⟨rfl, rfl, rfl, rfl, hhi, ha, hc, by dsimp only; omega⟩, fun h2 => ?_, fun h2 => ⟨fun h4 => ?_, fun h4 c h9 => ?_⟩⟩⟩⟩
    · refine WpE.into (aliasSlot 6 1 0 l.length cap rfl rfl) ?_
      refine fin_k tt_ok (rs := rs_l03_does) rfl rfl (hK (l, cap) ⟨hm, rfl, hc⟩) [0, 1, 2, 3, 5] rfl ?_ rfl rfl rfl rfl
      rw [seg_full]; rfl
    · exfalso; rw [h1] at h2; cases h2
    · exfalso; rw [h1] at h2; cases h2
    · refine WpE.into (aliasSlot 6 1 0 l.length cap rfl rfl) ?_
      refine fin_k tt_ok (rs := rs_l03_does) rfl rfl (hK (l, cap) ⟨hm, rfl, hc⟩) [0, 1, 2, 3, 5] rfl ?_ rfl rfl rfl rfl
      rw [seg_full]; rfl
    · exfalso; dsimp only at h3 h4; rw [e1, h3] at h4; cases h4
    · exfalso; rw [h1] at h2; cases h2
    · exfalso; dsimp only at h3 h4; rw [e1, h3] at h4; cases h4
    · have hi := spanBad_i ha h3
      have h8 : (ofAt at_).toNat + x.length ≤ l.length := by dsimp only at hi; omega
      exact fin_k tt_ok (rs := rs_l03_does) rfl rfl (hK (setL l (ofAt at_).toNat x, c) ⟨mok_set hm h8 hxb, setL_length h8, h9⟩) [0, 1, 2, 3, 5] rfl rfl rfl rfl rfl rfl
  · have hU0 := Uw_lo v
    have e1 := lies_span l.length to (Uw v) (by omega)
    have e2 := lies_span l.length at_ (Uw v) (by omega)
    refine ⟨l, ⟨rfl, rfl, rfl, rfl, hm, ⟨ha, ht, hv⟩⟩, fun h1 => ?_, fun h1 => ⟨fun h3 => ?_, fun h3 => ⟨fun h4 => ?_, fun h4 => ?_⟩⟩⟩
    · refine ⟨l, ⟨rfl, rfl, hm, hc, ⟨ha, ht, hv⟩⟩, fun h2 => ?_, fun h2 => ?_⟩
      · refine WpE.into (aliasSlot 6 1 0 l.length cap rfl rfl) ?_
        refine fin_k tt_ok (rs := rs_l03_does) rfl rfl (hK (l, cap) ⟨hm, rfl, hc⟩) [0, 1, 2, 3, 5] rfl ?_ rfl rfl rfl rfl
        rw [seg_full]; rfl
      · exfalso; rw [h1] at h2; cases h2
    · refine ⟨l, ⟨rfl, rfl, hm, hc, ⟨ha, ht, hv⟩⟩, fun h2 => ?_, fun _ => ⟨fun h5 => ?_, fun h5 => ?_⟩⟩
      · exfalso; rw [h1] at h2; cases h2
      · refine WpE.into (aliasSlot 6 1 0 l.length cap rfl rfl) ?_
        refine fin_k tt_ok (rs := rs_l03_does) rfl rfl (hK (l, cap) ⟨hm, rfl, hc⟩) [0, 1, 2, 3, 5] rfl ?_ rfl rfl rfl rfl
        rw [seg_full]; rfl
      · exfalso; rw [e1, h3] at h5; cases h5
    · refine ⟨l, ⟨rfl, rfl, hm, hc, ⟨ha, ht, hv⟩⟩, fun h2 => ?_, fun _ => ⟨fun h5 => ?_, fun h5 => ⟨fun h6 => ?_, fun h6 => ?_⟩⟩⟩
      · exfalso; rw [h1] at h2; cases h2
      · exfalso; rw [e1, h3] at h5; cases h5
      · refine WpE.into (aliasSlot 6 1 0 l.length cap rfl rfl) ?_
        refine fin_k tt_ok (rs := rs_l03_does) rfl rfl (hK (l, cap) ⟨hm, rfl, hc⟩) [0, 1, 2, 3, 5] rfl ?_ rfl rfl rfl rfl
        rw [seg_full]; rfl
      · exfalso; rw [e2, h4] at h6; cases h6
    · refine ⟨l, ⟨rfl, rfl, hm, hc, ⟨ha, ht, hv⟩⟩, fun h2 => ?_, fun _ => ⟨fun h5 => ?_, fun h5 => ⟨fun h6 => ?_, fun h6 c h9 => ?_⟩⟩⟩
      · exfalso; rw [h1] at h2; cases h2
      · exfalso; rw [e1, h3] at h5; cases h5
      · exfalso; rw [e2, h4] at h6; cases h6
      · have hi := spanBad_i ht h3
        have hi2 := spanBad_i ha h4
        have h8 : (ofAt at_).toNat + ((l.drop (ofAt to).toNat).take (Uw v).toNat).length ≤ l.length := by simp; omega
        exact fin_k tt_ok (rs := rs_l03_does) rfl rfl (hK (setL l (ofAt at_).toNat ((l.drop (ofAt to).toNat).take (Uw v).toNat), c) ⟨mok_set hm h8 (fun b hb => hm.byt b (List.mem_of_mem_drop (List.mem_of_mem_take hb))), setL_length h8, h9⟩) [0, 1, 2, 3, 5] rfl rfl rfl rfl rfl rfl
  · refine ⟨l, ⟨rfl, rfl, rfl, rfl, hm, ha⟩, fun h1 => ?_, fun h1 => ⟨fun h3 => ?_, fun h3 => ⟨fun h4 => ?_, fun h4 => ?_⟩⟩⟩
    · refine ⟨l, ⟨rfl, rfl, hhi, ha, hc, hn⟩, fun h2 => ?_, fun h2 => ?_⟩
      · show WpC _ _ _ _ _
        refine c_loop (α := Unit) (fun _ => True) (fun _ => 0) (fun _ => [(1, .t (.s (.sl 1 0 l.length cap)), none), (20, .t (.s (.raw (.slice none 0 0))), none), (24, .t (.s (.bool true)), none), (25, .t (.s (.int .i64 0)), none)]) (fun _ => [.blk 55 [.sl 3 0 l.length l.length], .view (bytesI l), .view (bytesI x), mOwn l]) () trivial ?_ ?_
        · exact into [0, 1, 2, 3] ⟨⟨_, rfl, rfl⟩, ⟨_, rfl, rfl⟩, ⟨_, rfl, rfl⟩, ⟨_, rfl, rfl⟩, trivial⟩ ⟨_, rfl, rfl⟩ rfl rfl rfl rfl
        · rintro _ _
          dsimp only
          refine c_run' tt_ok ctDo_ok k_l03_does [] 60 (by kernel_rfl) (by kernel_rfl) ?_
          refine ⟨fun h => absurd h (by decide), fun _ => ?_⟩
          refine WpE.into (aliasSlot 6 1 0 l.length cap rfl rfl) ?_
          refine fin_k tt_ok (rs := rs_l03_does) rfl rfl (hK (l, cap) ⟨hm, rfl, hc⟩) [0, 1, 2, 3, 4] rfl ?_ rfl rfl rfl rfl
          rw [seg_full]; rfl
      · exfalso; rw [h1] at h2; cases h2
    · refine ⟨l, ⟨rfl, rfl, hhi, ha, hc, hn⟩, fun h2 => ?_, fun _ => ⟨fun h5 => ?_, fun h5 => ?_⟩⟩
      · exfalso; rw [h1] at h2; cases h2
      · show WpC _ _ _ _ _
        refine c_loop (α := Unit) (fun _ => True) (fun _ => 0) (fun _ => [(1, .t (.s (.sl 1 0 l.length cap)), none), (20, .t (.s (.raw (.slice none 0 0))), none), (24, .t (.s (.bool true)), none), (25, .t (.s (.int .i64 0)), none)]) (fun _ => [.blk 55 [.sl 3 0 l.length l.length], .view (bytesI l), .view (bytesI x), mOwn l]) () trivial ?_ ?_
        · exact into [0, 1, 2, 3] ⟨⟨_, rfl, rfl⟩, ⟨_, rfl, rfl⟩, ⟨_, rfl, rfl⟩, ⟨_, rfl, rfl⟩, trivial⟩ ⟨_, rfl, rfl⟩ rfl rfl rfl rfl
        · rintro _ _
          dsimp only
          refine c_run' tt_ok ctDo_ok k_l03_does [] 60 (by kernel_rfl) (by kernel_rfl) ?_
          refine ⟨fun h => absurd h (by decide), fun _ => ?_⟩
          refine WpE.into (aliasSlot 6 1 0 l.length cap rfl rfl) ?_
          refine fin_k tt_ok (rs := rs_l03_does) rfl rfl (hK (l, cap) ⟨hm, rfl, hc⟩) [0, 1, 2, 3, 4] rfl ?_ rfl rfl rfl rfl
          rw [seg_full]; rfl
      · exfalso; rw [h3] at h5; cases h5
    · have e1 := lies_span l.length at_ n (by have := of_decide_eq_false h1; omega)
      refine ⟨l, ⟨rfl, rfl, hhi, ha, hc, hn⟩, fun h2 => ?_, fun _ => ⟨fun h5 => ?_, fun h5 => ⟨fun h6 => ?_, fun h6 => ?_⟩⟩⟩
      · exfalso; rw [h1] at h2; cases h2
      · exfalso; rw [h3] at h5; cases h5
      · show WpC _ _ _ _ _
        refine c_loop (α := Unit) (fun _ => True) (fun _ => 0) (fun _ => [(1, .t (.s (.sl 1 0 l.length cap)), none), (20, .t (.s (.raw (.slice none 0 0))), none), (24, .t (.s (.bool true)), none), (25, .t (.s (.int .i64 0)), none)]) (fun _ => [.blk 55 [.sl 3 0 l.length l.length], .view (bytesI l), .view (bytesI x), mOwn l]) () trivial ?_ ?_
        · exact into [0, 1, 2, 3] ⟨⟨_, rfl, rfl⟩, ⟨_, rfl, rfl⟩, ⟨_, rfl, rfl⟩, ⟨_, rfl, rfl⟩, trivial⟩ ⟨_, rfl, rfl⟩ rfl rfl rfl rfl
        · rintro _ _
          dsimp only
          refine c_run' tt_ok ctDo_ok k_l03_does [] 60 (by kernel_rfl) (by kernel_rfl) ?_
          refine ⟨fun h => absurd h (by decide), fun _ => ?_⟩
          refine WpE.into (aliasSlot 6 1 0 l.length cap rfl rfl) ?_
          refine fin_k tt_ok (rs := rs_l03_does) rfl rfl (hK (l, cap) ⟨hm, rfl, hc⟩) [0, 1, 2, 3, 4] rfl ?_ rfl rfl rfl rfl
          rw [seg_full]; rfl
      · exfalso; rw [e1, h4] at h6; cases h6
    · have e1 := lies_span l.length at_ n (by have := of_decide_eq_false h1; omega)
      refine ⟨l, ⟨rfl, rfl, hhi, ha, hc, hn⟩, fun h2 => ?_, fun _ => ⟨fun h5 => ?_, fun h5 => ⟨fun h6 => ?_, fun h6 c h9 => ?_⟩⟩⟩
      · exfalso; rw [h1] at h2; cases h2
      · exfalso; rw [h3] at h5; cases h5
      · exfalso; rw [e1, h4] at h6; cases h6
      · have hn0 := of_decide_eq_false h1
        have hi := spanBad_i ha h4
        have hs : ((l.drop (ofAt at_).toNat).take n.toNat).length = n.toNat := by simp; omega
        generalize (l.drop (ofAt at_).toNat).take n.toNat = sg at hs
        refine ⟨(sg, sg), ⟨rfl, rfl, hs.symm, hs.symm, hs⟩, ?_⟩
        show WpC _ _ _ _ _
        refine c_loop (α := Nat × List Int) (fun p => p.1 ≤ n.toNat ∧ p.2.length = n.toNat) (fun p => n.toNat - p.1) (fun p => [(1, .t (.s (.sl 1 0 l.length cap)), none), (20, .t (.s (.sl 4 0 n.toNat n.toNat)), none), (24, .t (.s (.bool true)), none), (25, .t (.s (.int .i64 (p.1 : Int))), none)]) (fun p => [.blk 55 [.sl 3 0 l.length l.length], .view (bytesI l), .view (bytesI x), mOwn l, .own 5 1 n.toNat (bytesI p.2)]) (0, sg) ⟨Nat.zero_le _, hs⟩ ?_ ?_
        · refine into [0, 1, 2, 3, 5] ⟨⟨_, rfl, rfl⟩, ⟨_, rfl, rfl⟩, ⟨_, rfl, fvb ?_⟩, ⟨_, rfl, rfl⟩, trivial⟩ ⟨_, rfl, ?_⟩ rfl rfl rfl rfl
          · simp [sameB]
          · rfl
        · rintro ⟨j, q⟩ ⟨hj, hq⟩
          simp only at hj hq
          dsimp only
          refine c_run' tt_ok ctDo_ok k_l03_does [] 60 (by kernel_rfl) (by kernel_rfl) ?_
          refine ⟨fun h7 => ?_, fun _ => ?_⟩
          · have h7' := of_decide_eq_true h7
            refine ⟨j, ⟨rfl, by omega, by simp; omega⟩, .int .u8 (q.getD j 0), rfl, ?_, j, ⟨rfl, by omega, by simp; omega⟩, by show 0 + j * (0 + 1) + 1 ≤ _; simp; omega, ?_⟩
            · show (bytesI q)[0 + j * (0 + 1)]? = _
              rw [Nat.zero_add, Nat.zero_add, Nat.mul_one]; exact bytesI_at (by omega)
            · refine e_again (j + 1, setL q j [IntKind.u8.wrap (q.getD j 0 + 1)]) ⟨show j + 1 ≤ n.toNat by omega, by show (setL q j _).length = _; rw [setL_length (by simp; omega), hq]⟩ (show n.toNat - (j + 1) < n.toNat - j by omega)
                (into [0, 1, 2, 3, 4] ⟨⟨_, rfl, rfl⟩, ⟨_, rfl, rfl⟩, ⟨_, rfl, rfl⟩, ⟨_, rfl, fvi (wrapSucc (by omega))⟩, trivial⟩ ⟨_, rfl, ?_⟩ rfl rfl rfl rfl)
              show [Ch.blk 55 [SV.sl 3 0 l.length l.length], Ch.view (bytesI l), Ch.view (bytesI x), mOwn l, Ch.own 5 1 n.toNat (setV (bytesI q) (0 + j * (0 + 1)) (bytesI [IntKind.u8.wrap (q.getD j 0 + 1)]))] = _
              rw [setV_bytesI, Nat.zero_add, Nat.zero_add, Nat.mul_one]; rfl
          · refine WpE.into (aliasSlot 6 1 0 l.length cap rfl rfl) ?_
            refine fin_k tt_ok (rs := rs_l03_does) rfl rfl (hK (l, cap) ⟨hm, rfl, hc⟩) [0, 1, 2, 3, 5] rfl ?_ rfl rfl rfl rfl
            rw [seg_full]; rfl
  · have e1 := lies_span l.length at_ 1 (by decide)
    have e2 := span_word (n := l.length) ha hm.al
    cases hb : liesB l.length at_ 1 with
    | false =>
      have s1 : spanBad l.length at_ 1 = true := by rw [hb] at e1; simpa using e1.symm
      have s2 : spanBad l.length (wAt at_) 4 = true := by rw [e2, hb]; rfl
      refine ⟨l, ⟨rfl, rfl, rfl, rfl, hm, ha⟩, fun _ => ⟨l, ⟨rfl, rfl, hm, hc, ha⟩, fun h2 => absurd (hb.symm.trans h2) (by decide), fun _ => ⟨l, ⟨rfl, rfl, rfl, rfl, hm, ha⟩, fun _ => ⟨l, ⟨rfl, rfl, hm, hc, ha⟩, fun h4 => absurd (hb.symm.trans h4) (by decide), fun _ => ?_⟩, fun h3 => absurd (s2.symm.trans h3) (by decide)⟩⟩, fun h1 => absurd (s1.symm.trans h1) (by decide)⟩
      refine WpE.into (aliasSlot 6 1 0 l.length cap rfl rfl) ?_
      refine fin_k tt_ok (rs := rs_l03_does) rfl rfl (hK (l, cap) ⟨hm, rfl, hc⟩) [0, 1, 2, 3, 5] (tslb ?_) ?_ rfl rfl rfl rfl
      · simp
      · rw [seg_full]; rfl
    | true =>
      have s1 : spanBad l.length at_ 1 = false := by rw [hb] at e1; simpa using e1.symm
      have s2 : spanBad l.length (wAt at_) 4 = false := by rw [e2, hb]; rfl
      refine ⟨l, ⟨rfl, rfl, rfl, rfl, hm, ha⟩, fun h1 => absurd (s1.symm.trans h1) (by decide), fun _ => ⟨l, ⟨rfl, rfl, hm, hc, ha⟩, fun _ => ⟨l, ⟨rfl, rfl, rfl, rfl, hm, ha⟩, fun h3 => absurd (s2.symm.trans h3) (by decide), fun _ => ⟨l, ⟨rfl, rfl, hm, hc, ha⟩, fun _ => ?_, fun h4 => absurd (hb.symm.trans h4) (by decide)⟩⟩, fun h2 => absurd (hb.symm.trans h2) (by decide)⟩⟩
      refine WpE.into (aliasSlot 6 1 0 l.length cap rfl rfl) ?_
      refine fin_k tt_ok (rs := rs_l03_does) rfl rfl (hK (l, cap) ⟨hm, rfl, hc⟩) [0, 1, 2, 3, 5] (tslb ?_) ?_ rfl rfl rfl rfl
      · simp
      · rw [seg_full]; rfl
abbrev DoOut_does_r (l : List Int) : Out := .all (List Int × Nat) (fun p => MOK p.1 ∧ p.1.length = l.length ∧ l.length ≤ p.2) fun p => .ret (.tup [.s (.sl 3 0 l.length p.2), .s (.bool true)]) [.blk 55 [.sl 2 0 l.length l.length], .view (bytesI l), .own 5 1 l.length (bytesI p.1), .view (bytesI p.1)]
set_option maxHeartbeats 4000000 in
theorem does_r (l : List Int) (b : Option Addr) (cap cx : Nat) (wh at_ to v n : Int) (hm : MOK l) (hc : l.length ≤ cap) (ha : I32 at_) (ht : I32 to) (hv : I32 v) (hn : n ≤ 9223372036854775807) :
    Con Try.prog f_l03_does [.s (.loc 0 0), .s (.sl 1 0 l.length cap), .agg [.int .u8 wh, .int .i32 at_, .int .i32 to, .int .i32 v, .int .i64 n, .raw (.slice b 0 cx)]] [.blk 55 [.sl 2 0 l.length l.length], .view (bytesI l), mOwn l] (DoOut_does_r l ) := by
  intro K hK
  have hlo := hm.lo
  have hhi := hm.hi
  refine enter fn_l03_does rfl nt_l03_does rfl rfl (fun φ w0 β0 F => ?_)
  refine c_run tt_ok ctDo_ok k_l03_does [] 60 (by kernel_rfl) ?_
  refine ⟨fun _ => ?_, fun _ => ⟨fun _ => ?_, fun _ => ⟨fun _ => ?_, fun _ => ⟨fun _ => ?_, fun _ => ⟨fun _ => ?_, fun _ => ?_⟩⟩⟩⟩⟩
  · have e1 := lies_span l.length at_ 1 (by decide)
    refine ⟨l, ⟨rfl, rfl, rfl, rfl, hm, ha⟩, fun h1 => ⟨l, ⟨rfl, rfl, hm, hc, ha⟩, fun h2 => ?_, fun h2 => ?_⟩, fun h1 => ⟨l, ⟨rfl, rfl, hm, hc, ha⟩, fun h2 => ?_, fun h2 c h9 => ?_⟩⟩
    · refine WpE.into (aliasSlot 6 1 0 l.length cap rfl rfl) ?_
      refine fin_k tt_ok (rs := rs_l03_does) rfl rfl (hK (l, cap) ⟨hm, rfl, hc⟩) [0, 1, 2, 4] rfl ?_ rfl rfl rfl rfl
      rw [seg_full]; rfl
    · exfalso; rw [e1, h1] at h2; cases h2
    · exfalso; rw [e1, h1] at h2; cases h2
    · have hi := spanBad_i ha h1
      have h8 : (ofAt at_).toNat + [IntKind.u8.wrap v].length ≤ l.length := by simp; omega
      exact fin_k tt_ok (rs := rs_l03_does) rfl rfl (hK (setL l (ofAt at_).toNat [IntKind.u8.wrap v], c) ⟨mok_set hm h8 (fun b hb => by rw [List.mem_singleton.1 hb]; exact u8_wrap v), setL_length h8, h9⟩) [0, 1, 2, 4] rfl rfl rfl rfl rfl rfl
  · have e1 := span_word (n := l.length) ha hm.al
    refine ⟨l, ⟨rfl, rfl, rfl, rfl, hm, ha⟩, fun h1 => ⟨l, ⟨rfl, rfl, hm, hc, ha⟩, fun h2 => ?_, fun h2 => ?_⟩, fun h1 => ⟨l, ⟨rfl, rfl, hm, hc, ha⟩, fun h2 => ?_, fun h2 c h9 => ?_⟩⟩
    · refine WpE.into (aliasSlot 6 1 0 l.length cap rfl rfl) ?_
      refine fin_k tt_ok (rs := rs_l03_does) rfl rfl (hK (l, cap) ⟨hm, rfl, hc⟩) [0, 1, 2, 4] rfl ?_ rfl rfl rfl rfl
      rw [seg_full]; rfl
    · exfalso; rw [← e1, h1] at h2; cases h2
    · exfalso; rw [← e1, h1] at h2; cases h2
    · have hi := spanBad_i (wAt_i32 ha) h1
      have h8 : (ofAt (wAt at_)).toNat + 4 ≤ l.length := by omega
      exact fin_k tt_ok (rs := rs_l03_does) rfl rfl (hK (setW l (ofAt (wAt at_)).toNat v, c) ⟨mok_setW v hm h8, stW_length h8 4 (by decide), h9⟩) [0, 1, 2, 4] rfl rfl rfl rfl rfl rfl
  · refine ⟨l, ⟨rfl, rfl, rfl, rfl, hm⟩, l, ⟨rfl, rfl⟩, ?_⟩
    refine WpE.into (aliasSlot 6 1 0 l.length cap rfl rfl) ?_
    refine fin_k tt_ok (rs := rs_l03_does) rfl rfl (hK (l, cap) ⟨hm, rfl, hc⟩) [0, 1, 2, 4] rfl ?_ rfl rfl rfl rfl
    rw [seg_full]; rfl
  · have hU0 := Uw_lo v
    have e1 := lies_span l.length to (Uw v) (by omega)
    have e2 := lies_span l.length at_ (Uw v) (by omega)
    refine ⟨l, ⟨rfl, rfl, rfl, rfl, hm, ⟨ha, ht, hv⟩⟩, fun h1 => ?_, fun h1 => ⟨fun h3 => ?_, fun h3 => ⟨fun h4 => ?_, fun h4 => ?_⟩⟩⟩
    · refine ⟨l, ⟨rfl, rfl, hm, hc, ⟨ha, ht, hv⟩⟩, fun h2 => ?_, fun h2 => ?_⟩
      · refine WpE.into (aliasSlot 6 1 0 l.length cap rfl rfl) ?_
        refine fin_k tt_ok (rs := rs_l03_does) rfl rfl (hK (l, cap) ⟨hm, rfl, hc⟩) [0, 1, 2, 4] rfl ?_ rfl rfl rfl rfl
        rw [seg_full]; rfl
      · exfalso; rw [h1] at h2; cases h2
    · refine ⟨l, ⟨rfl, rfl, hm, hc, ⟨ha, ht, hv⟩⟩, fun h2 => ?_, fun _ => ⟨fun h5 => ?_, fun h5 => ?_⟩⟩
      · exfalso; rw [h1] at h2; cases h2
      · refine WpE.into (aliasSlot 6 1 0 l.length cap rfl rfl) ?_
        refine fin_k tt_ok (rs := rs_l03_does) rfl rfl (hK (l, cap) ⟨hm, rfl, hc⟩) [0, 1, 2, 4] rfl ?_ rfl rfl rfl rfl
        rw [seg_full]; rfl
      · exfalso; rw [e1, h3] at h5; cases h5
    · refine ⟨l, ⟨rfl, rfl, hm, hc, ⟨ha, ht, hv⟩⟩, fun h2 => ?_, fun _ => ⟨fun h5 => ?_, fun h5 => ⟨fun h6 => ?_, fun h6 => ?_⟩⟩⟩
      · exfalso; rw [h1] at h2; cases h2
      · exfalso; rw [e1, h3] at h5; cases h5
      · refine WpE.into (aliasSlot 6 1 0 l.length cap rfl rfl) ?_
        refine fin_k tt_ok (rs := rs_l03_does) rfl rfl (hK (l, cap) ⟨hm, rfl, hc⟩) [0, 1, 2, 4] rfl ?_ rfl rfl rfl rfl
        rw [seg_full]; rfl
      · exfalso; rw [e2, h4] at h6; cases h6
    · refine ⟨l, ⟨rfl, rfl, hm, hc, ⟨ha, ht, hv⟩⟩, fun h2 => ?_, fun _ => ⟨fun h5 => ?_, fun h5 => ⟨fun h6 => ?_, fun h6 c h9 => ?_⟩⟩⟩
      · exfalso; rw [h1] at h2; cases h2
      · exfalso; rw [e1, h3] at h5; cases h5
      · exfalso; rw [e2, h4] at h6; cases h6
      · have hi := spanBad_i ht h3
        have hi2 := spanBad_i ha h4
        have h8 : (ofAt at_).toNat + ((l.drop (ofAt to).toNat).take (Uw v).toNat).length ≤ l.length := by simp; omega
        exact fin_k tt_ok (rs := rs_l03_does) rfl rfl (hK (setL l (ofAt at_).toNat ((l.drop (ofAt to).toNat).take (Uw v).toNat), c) ⟨mok_set hm h8 (fun b hb => hm.byt b (List.mem_of_mem_drop (List.mem_of_mem_take hb))), setL_length h8, h9⟩) [0, 1, 2, 4] rfl rfl rfl rfl rfl rfl
  · refine ⟨l, ⟨rfl, rfl, rfl, rfl, hm, ha⟩, fun h1 => ?_, fun h1 => ⟨fun h3 => ?_, fun h3 => ⟨fun h4 => ?_, fun h4 => ?_⟩⟩⟩
    · refine ⟨l, ⟨rfl, rfl, hhi, ha, hc, hn⟩, fun h2 => ?_, fun h2 => ?_⟩
      · show WpC _ _ _ _ _
        refine c_loop (α := Unit) (fun _ => True) (fun _ => 0) (fun _ => [(1, .t (.s (.sl 1 0 l.length cap)), none), (20, .t (.s (.raw (.slice none 0 0))), none), (24, .t (.s (.bool true)), none), (25, .t (.s (.int .i64 0)), none)]) (fun _ => [.blk 55 [.sl 2 0 l.length l.length], .view (bytesI l), mOwn l]) () trivial ?_ ?_
        · exact into [0, 1, 2] ⟨⟨_, rfl, rfl⟩, ⟨_, rfl, rfl⟩, ⟨_, rfl, rfl⟩, ⟨_, rfl, rfl⟩, trivial⟩ ⟨_, rfl, rfl⟩ rfl rfl rfl rfl
        · rintro _ _
          dsimp only
          refine c_run' tt_ok ctDo_ok k_l03_does [] 60 (by kernel_rfl) (by kernel_rfl) ?_
          refine ⟨fun h => absurd h (by decide), fun _ => ?_⟩
          refine WpE.into (aliasSlot 6 1 0 l.length cap rfl rfl) ?_
          refine fin_k tt_ok (rs := rs_l03_does) rfl rfl (hK (l, cap) ⟨hm, rfl, hc⟩) [0, 1, 2, 3] rfl ?_ rfl rfl rfl rfl
          rw [seg_full]; rfl
      · exfalso; rw [h1] at h2; cases h2
    · refine ⟨l, ⟨rfl, rfl, hhi, ha, hc, hn⟩, fun h2 => ?_, fun _ => ⟨fun h5 => ?_, fun h5 => ?_⟩⟩
      · exfalso; rw [h1] at h2; cases h2
      · show WpC _ _ _ _ _
        refine c_loop (α := Unit) (fun _ => True) (fun _ => 0) (fun _ => [(1, .t (.s (.sl 1 0 l.length cap)), none), (20, .t (.s (.raw (.slice none 0 0))), none), (24, .t (.s (.bool true)), none), (25, .t (.s (.int .i64 0)), none)]) (fun _ => [.blk 55 [.sl 2 0 l.length l.length], .view (bytesI l), mOwn l]) () trivial ?_ ?_
        · exact into [0, 1, 2] ⟨⟨_, rfl, rfl⟩, ⟨_, rfl, rfl⟩, ⟨_, rfl, rfl⟩, ⟨_, rfl, rfl⟩, trivial⟩ ⟨_, rfl, rfl⟩ rfl rfl rfl rfl
        · rintro _ _
          dsimp only
          refine c_run' tt_ok ctDo_ok k_l03_does [] 60 (by kernel_rfl) (by kernel_rfl) ?_
          refine ⟨fun h => absurd h (by decide), fun _ => ?_⟩
          refine WpE.into (aliasSlot 6 1 0 l.length cap rfl rfl) ?_
          refine fin_k tt_ok (rs := rs_l03_does) rfl rfl (hK (l, cap) ⟨hm, rfl, hc⟩) [0, 1, 2, 3] rfl ?_ rfl rfl rfl rfl
          rw [seg_full]; rfl
      · exfalso; rw [h3] at h5; cases h5
    · have e1 := lies_span l.length at_ n (by have := of_decide_eq_false h1; omega)
      refine ⟨l, ⟨rfl, rfl, hhi, ha, hc, hn⟩, fun h2 => ?_, fun _ => ⟨fun h5 => ?_, fun h5 => ⟨fun h6 => ?_, fun h6 => ?_⟩⟩⟩
      · exfalso; rw [h1] at h2; cases h2
      · exfalso; rw [h3] at h5; cases h5
      · show WpC _ _ _ _ _
        refine c_loop (α := Unit) (fun _ => True) (fun _ => 0) (fun _ => [(1, .t (.s (.sl 1 0 l.length cap)), none), (20, .t (.s (.raw (.slice none 0 0))), none), (24, .t (.s (.bool true)), none), (25, .t (.s (.int .i64 0)), none)]) (fun _ => [.blk 55 [.sl 2 0 l.length l.length], .view (bytesI l), mOwn l]) () trivial ?_ ?_
        · exact into [0, 1, 2] ⟨⟨_, rfl, rfl⟩, ⟨_, rfl, rfl⟩, ⟨_, rfl, rfl⟩, ⟨_, rfl, rfl⟩, trivial⟩ ⟨_, rfl, rfl⟩ rfl rfl rfl rfl
        · rintro _ _
          dsimp only
          refine c_run' tt_ok ctDo_ok k_l03_does [] 60 (by kernel_rfl) (by kernel_rfl) ?_
          refine ⟨fun h => absurd h (by decide), fun _ => ?_⟩
          refine WpE.into (aliasSlot 6 1 0 l.length cap rfl rfl) ?_
          refine fin_k tt_ok (rs := rs_l03_does) rfl rfl (hK (l, cap) ⟨hm, rfl, hc⟩) [0, 1, 2, 3] rfl ?_ rfl rfl rfl rfl
          rw [seg_full]; rfl
      · exfalso; rw [e1, h4] at h6; cases h6
    · have e1 := lies_span l.length at_ n (by have := of_decide_eq_false h1; omega)
      refine ⟨l, ⟨rfl, rfl, hhi, ha, hc, hn⟩, fun h2 => ?_, fun _ => ⟨fun h5 => ?_, fun h5 => ⟨fun h6 => ?_, fun h6 c h9 => ?_⟩⟩⟩
      · exfalso; rw [h1] at h2; cases h2
      · exfalso; rw [h3] at h5; cases h5
      · exfalso; rw [e1, h4] at h6; cases h6
      · have hn0 := of_decide_eq_false h1
        have hi := spanBad_i ha h4
        have hs : ((l.drop (ofAt at_).toNat).take n.toNat).length = n.toNat := by simp; omega
        generalize (l.drop (ofAt at_).toNat).take n.toNat = sg at hs
        refine ⟨(sg, sg), ⟨rfl, rfl, hs.symm, hs.symm, hs⟩, ?_⟩
        show WpC _ _ _ _ _
        refine c_loop (α := Nat × List Int) (fun p => p.1 ≤ n.toNat ∧ p.2.length = n.toNat) (fun p => n.toNat - p.1) (fun p => [(1, .t (.s (.sl 1 0 l.length cap)), none), (20, .t (.s (.sl 3 0 n.toNat n.toNat)), none), (24, .t (.s (.bool true)), none), (25, .t (.s (.int .i64 (p.1 : Int))), none)]) (fun p => [.blk 55 [.sl 2 0 l.length l.length], .view (bytesI l), mOwn l, .own 5 1 n.toNat (bytesI p.2)]) (0, sg) ⟨Nat.zero_le _, hs⟩ ?_ ?_
        · refine into [0, 1, 2, 4] ⟨⟨_, rfl, rfl⟩, ⟨_, rfl, rfl⟩, ⟨_, rfl, fvb ?_⟩, ⟨_, rfl, rfl⟩, trivial⟩ ⟨_, rfl, ?_⟩ rfl rfl rfl rfl
          · simp [sameB]
          · rfl
        · rintro ⟨j, q⟩ ⟨hj, hq⟩
          simp only at hj hq
          dsimp only
          refine c_run' tt_ok ctDo_ok k_l03_does [] 60 (by kernel_rfl) (by kernel_rfl) ?_
          refine ⟨fun h7 => ?_, fun _ => ?_⟩
          · have h7' := of_decide_eq_true h7
            refine ⟨j, ⟨rfl, by omega, by simp; omega⟩, .int .u8 (q.getD j 0), rfl, ?_, j, ⟨rfl, by omega, by simp; omega⟩, by show 0 + j * (0 + 1) + 1 ≤ _; simp; omega, ?_⟩
            · show (bytesI q)[0 + j * (0 + 1)]? = _
              rw [Nat.zero_add, Nat.zero_add, Nat.mul_one]; exact bytesI_at (by omega)
            · refine e_again (j + 1, setL q j [IntKind.u8.wrap (q.getD j 0 + 1)]) ⟨show j + 1 ≤ n.toNat by omega, by show (setL q j _).length = _; rw [setL_length (by simp; omega), hq]⟩ (show n.toNat - (j + 1) < n.toNat - j by omega)
                (into [0, 1, 2, 3] ⟨⟨_, rfl, rfl⟩, ⟨_, rfl, rfl⟩, ⟨_, rfl, rfl⟩, ⟨_, rfl, fvi (wrapSucc (by omega))⟩, trivial⟩ ⟨_, rfl, ?_⟩ rfl rfl rfl rfl)
              show [Ch.blk 55 [SV.sl 2 0 l.length l.length], Ch.view (bytesI l), mOwn l, Ch.own 5 1 n.toNat (setV (bytesI q) (0 + j * (0 + 1)) (bytesI [IntKind.u8.wrap (q.getD j 0 + 1)]))] = _
              rw [setV_bytesI, Nat.zero_add, Nat.zero_add, Nat.mul_one]; rfl
          · refine WpE.into (aliasSlot 6 1 0 l.length cap rfl rfl) ?_
            refine fin_k tt_ok (rs := rs_l03_does) rfl rfl (hK (l, cap) ⟨hm, rfl, hc⟩) [0, 1, 2, 4] rfl ?_ rfl rfl rfl rfl
            rw [seg_full]; rfl
  · have e1 := lies_span l.length at_ 1 (by decide)
    have e2 := span_word (n := l.length) ha hm.al
    cases hb : liesB l.length at_ 1 with
    | false =>
      have s1 : spanBad l.length at_ 1 = true := by rw [hb] at e1; simpa using e1.symm
      have s2 : spanBad l.length (wAt at_) 4 = true := by rw [e2, hb]; rfl
      refine ⟨l, ⟨rfl, rfl, rfl, rfl, hm, ha⟩, fun _ => ⟨l, ⟨rfl, rfl, hm, hc, ha⟩, fun h2 => absurd (hb.symm.trans h2) (by decide), fun _ => ⟨l, ⟨rfl, rfl, rfl, rfl, hm, ha⟩, fun _ => ⟨l, ⟨rfl, rfl, hm, hc, ha⟩, fun h4 => absurd (hb.symm.trans h4) (by decide), fun _ => ?_⟩, fun h3 => absurd (s2.symm.trans h3) (by decide)⟩⟩, fun h1 => absurd (s1.symm.trans h1) (by decide)⟩
      refine WpE.into (aliasSlot 6 1 0 l.length cap rfl rfl) ?_
      refine fin_k tt_ok (rs := rs_l03_does) rfl rfl (hK (l, cap) ⟨hm, rfl, hc⟩) [0, 1, 2, 4] (tslb ?_) ?_ rfl rfl rfl rfl
      · simp
      · rw [seg_full]; rfl
    | true =>
      have s1 : spanBad l.length at_ 1 = false := by rw [hb] at e1; simpa using e1.symm
      have s2 : spanBad l.length (wAt at_) 4 = false := by rw [e2, hb]; rfl
      refine ⟨l, ⟨rfl, rfl, rfl, rfl, hm, ha⟩, fun h1 => absurd (s1.symm.trans h1) (by decide), fun _ => ⟨l, ⟨rfl, rfl, hm, hc, ha⟩, fun _ => ⟨l, ⟨rfl, rfl, rfl, rfl, hm, ha⟩, fun h3 => absurd (s2.symm.trans h3) (by decide), fun _ => ⟨l, ⟨rfl, rfl, hm, hc, ha⟩, fun _ => ?_, fun h4 => absurd (hb.symm.trans h4) (by decide)⟩⟩, fun h2 => absurd (hb.symm.trans h2) (by decide)⟩⟩
      refine WpE.into (aliasSlot 6 1 0 l.length cap rfl rfl) ?_
      refine fin_k tt_ok (rs := rs_l03_does) rfl rfl (hK (l, cap) ⟨hm, rfl, hc⟩) [0, 1, 2, 4] (tslb ?_) ?_ rfl rfl rfl rfl
      · simp
      · rw [seg_full]; rfl
end Go.Proofs

namespace Go.Proofs
open Go Go.Sx
set_option maxRecDepth 10000
structure POp where
  wh : Int
  at_ : Int
  to : Int
  v : Int
  n : Int
  s : Option Addr
  m : Nat
  c : Nat
  b : List Int
def POp.vs : POp → List Value
  | ⟨wh, at_, to, v, n, s, m, c, _⟩ => [.int .u8 wh, .int .i32 at_, .int .i32 to, .int .i32 v, .int .i64 n, .slice s m c]
def POp.row : POp → List SV
  | ⟨wh, at_, to, v, n, s, m, c, _⟩ => [.int .u8 wh, .int .i32 at_, .int .i32 to, .int .i32 v, .int .i64 n, .raw (.slice s m c)]
structure POp.ok (o : POp) : Prop where
  at_ : I32 o.at_
  to : I32 o.to
  v : I32 o.v
  n : o.n ≤ 9223372036854775807
  len : o.b.length = o.m
  cap : o.m ≤ o.c
  nil : o.s = none → o.m = 0 ∧ o.c = 0
  spot : 0 < o.c → ∀ x, o.s = some x → x.spot = none
  byt : ∀ x ∈ o.b, 0 ≤ x ∧ x < 256
  max : o.c ≤ maxLen
def opV (l : List POp) : List Value := (l.map POp.vs).flatten
def opD (l : List POp) : List (Option Addr × List Value) := l.map fun o => (o.s, bytesI o.b)
theorem op_row {l : List POp} {i : Nat} {o : POp} (h : l[i]? = some o) : seg (opV l) (i * 6) 6 = POp.vs o := by
  induction l generalizing i with
  | nil => simp at h
  | cons x l ih =>
    have hx : (POp.vs x).length = 6 := rfl
    cases i with
    | zero =>
      simp at h; subst h
      show ((opV (x :: l)).drop (0 * 6)).take 6 = _
      rw [Nat.zero_mul, List.drop_zero]
      show (POp.vs x ++ opV l).take 6 = _
      rw [← hx, List.take_left]
    | succ i =>
      rw [← ih (by simpa using h)]
      show ((POp.vs x ++ opV l).drop ((i + 1) * 6)).take 6 = ((opV l).drop (i * 6)).take 6
      rw [show (i + 1) * 6 = (POp.vs x).length + i * 6 by rw [hx]; omega, ← List.drop_drop, List.drop_left]
theorem opV_length (l : List POp) : (opV l).length = 6 * l.length := by
  induction l with
  | nil => rfl
  | cons x l ih =>
    show (POp.vs x ++ opV l).length = _
    rw [List.length_append, ih, show (POp.vs x).length = 6 from rfl, List.length_cons]; omega
theorem op_cell {l : List POp} {i : Nat} {o : POp} (h : l[i]? = some o) : (opV l)[i * 6 + 5]? = some (Value.slice o.s o.m o.c) := by
  have h1 := op_row h
  have h2 : (seg (opV l) (i * 6) 6)[5]? = some (Value.slice o.s o.m o.c) := by rw [h1]; rfl
  unfold seg at h2
  rw [List.getElem?_take_of_lt (by decide), List.getElem?_drop] at h2
  exact h2
theorem great_c (l : List POp) (cap : Nat) (hcap : l.length ≤ cap) (hmax : cap ≤ maxLen) : Con Try.prog f_l03_great [.s (.sl 0 0 l.length cap)] [.view (opV l)]
    (.all Bool (fun g => g = false → l.length ≤ 40 ∧ ∀ o ∈ l, o.m ≤ 70000) fun g => .ret (.t (.s (.bool g))) [.view (opV l)]) := by
  intro K hK
  have hm' : cap ≤ 9223372036854775807 := hmax
  refine enter fn_l03_great rfl nt_l03_great rfl rfl (fun φ w0 β0 F => ?_)
  refine c_run tt_ok (ct := []) trivial k_l03_great [] 60 (by kernel_rfl) ?_
  show WpC _ _ _ _ _
  refine c_loop (α := Nat × Int) (fun x => x.1 ≤ l.length ∧ ∀ o ∈ l.take x.1, o.m ≤ 70000) (fun x => l.length - x.1)
    (fun x => [(0, .t (.s (.sl 0 0 l.length cap)), none), (3, .t (.s (.int .i64 x.2)), none), (4, .t (.s (.int .i64 (x.1 : Int))), none)]) (fun _ => [.view (opV l)]) (0, 0) ⟨Nat.zero_le _, fun o ho => by simp at ho⟩ ?_ ?_
  · exact into [0] ⟨⟨_, rfl, rfl⟩, ⟨_, rfl, rfl⟩, ⟨_, rfl, rfl⟩, trivial⟩ ⟨_, rfl, rfl⟩ rfl rfl rfl rfl
  · rintro ⟨i, n⟩ ⟨hi, hs⟩
    simp only at hi hs
    dsimp only
    refine c_run' tt_ok (ct := []) trivial k_l03_great [] 60 (by kernel_rfl) (by kernel_rfl) ?_
    refine ⟨fun h => ?_, fun h => ?_⟩
    · have h' : (i : Int) < l.length := of_decide_eq_true h
      have hil : i < l.length := by omega
      obtain ⟨o, ho⟩ : ∃ o, l[i]? = some o := ⟨l[i], List.getElem?_eq_getElem hil⟩
      have hc := op_cell ho
      have hw : IntKind.i64.wrap ((i : Int) + 1) = ((i + 1 : Nat) : Int) := by rw [wrap64 (by omega) (by omega)]; omega
      have hb : 0 + (i + 1) * (5 + 1) ≤ (opV l).length := by rw [opV_length]; omega
      have hcell : (opV l)[0 + i * (5 + 1) + 5]? = some (SV.raw (.slice o.s o.m o.c)).cv := by rw [Nat.zero_add]; exact hc
      refine ⟨i, ⟨rfl, hil, hb⟩, .raw (.slice o.s o.m o.c), rfl, hcell, fun h2 => ?_, fun h2 => ?_⟩
      · exact fin_k tt_ok (rs := rs_l03_great) rfl rfl (hK true (fun h => by cases h)) [0] rfl rfl rfl rfl rfl rfl
      · have h2' : ¬ (o.m : Int) > 70000 := of_decide_eq_false h2
        refine ⟨i, ⟨rfl, hil, hb⟩, .raw (.slice o.s o.m o.c), rfl, hcell, ?_⟩
        refine e_again (i + 1, IntKind.i64.wrap (n + (o.m : Int))) ⟨hil, fun q hq => ?_⟩ (by show l.length - (i + 1) < l.length - i; omega) (into [0] ⟨⟨_, rfl, rfl⟩, ⟨_, rfl, rfl⟩, ⟨_, rfl, fvi hw⟩, trivial⟩ ⟨_, rfl, rfl⟩ rfl rfl rfl rfl)
        rw [List.take_add_one, ho] at hq
        rcases List.mem_append.1 hq with hq | hq
        · exact hs q hq
        · simp at hq; subst hq; omega
    · have h' : ¬ (i : Int) < l.length := of_decide_eq_false h
      have hil : i = l.length := by omega
      subst hil
      refine fin_k tt_ok (rs := rs_l03_great) rfl rfl (hK (bif decide ((l.length : Int) > 40) then true else decide (n > 140000)) (fun hg => ?_)) [0] rfl rfl rfl rfl rfl rfl
      cases h4 : decide ((l.length : Int) > 40) with
      | true => rw [h4] at hg; cases hg
      | false =>
        have := of_decide_eq_false h4
        exact ⟨by omega, fun o ho => hs o (by rw [List.take_length]; exact ho)⟩
end Go.Proofs

namespace Go.Proofs
open Go Go.Sx
set_option maxRecDepth 10000
noncomputable abbrev eDoes : Ent := .st (conS (P := Try.prog) (f := f_l03_does) fun cargs σ0 => match cargs, σ0 with
  | [.s (.loc 0 0), .s (.sl 1 0 n cap), .agg [.int .u8 wh, .int .i32 a, .int .i32 to, .int .i32 v, .int .i64 k, .sl 2 0 q cx]], [.blk 55 [.sl 3 0 n1 n2], .view ys, .view zs, .own 5 1 c xs] => some ⟨.ex (List Int × List Int) fun p => .ask (n = p.1.length ∧ ys = bytesI p.1 ∧ zs = bytesI p.2 ∧ q = p.2.length ∧ n1 = p.1.length ∧ n2 = p.1.length ∧ c = p.1.length ∧ xs = bytesI p.1 ∧ MOK p.1 ∧ p.1.length ≤ cap ∧ (I32 a ∧ I32 to ∧ I32 v) ∧ k ≤ 9223372036854775807 ∧ p.2.length ≤ 70000 ∧ ∀ b ∈ p.2, 0 ≤ b ∧ b < 256)
      (DoOut_does_v p.1 p.2), fun K h => by
      obtain ⟨⟨l, x⟩, ⟨e1, e2, e3, e4, e5, e6, e7, e8, h1, h2, h3, h4, h5, h6⟩, h⟩ := h
      dsimp only at e1 e2 e3 e4 e5 e6 e7 e8 h1 h2 h5 h6 h
      subst e1; subst e2; subst e3; subst e4; subst e5; subst e6; subst e7; subst e8
      exact does_v l x cap cx wh a to v k h1 h2 h3.1 h3.2.1 h3.2.2 h4 h5 h6 K h⟩
  | [.s (.loc 0 0), .s (.sl 1 0 n cap), .agg [.int .u8 wh, .int .i32 a, .int .i32 to, .int .i32 v, .int .i64 k, .raw (.slice b 0 cx)]], [.blk 55 [.sl 2 0 n1 n2], .view ys, .own 5 1 c xs] => some ⟨.ex (List Int) fun l => .ask (n = l.length ∧ ys = bytesI l ∧ n1 = l.length ∧ n2 = l.length ∧ c = l.length ∧ xs = bytesI l ∧ MOK l ∧ l.length ≤ cap ∧ (I32 a ∧ I32 to ∧ I32 v) ∧ k ≤ 9223372036854775807)
      (DoOut_does_r l), fun K h => by
      obtain ⟨l, ⟨e1, e2, e5, e6, e7, e8, h1, h2, h3, h4⟩, h⟩ := h
      subst e1; subst e2; subst e5; subst e6; subst e7; subst e8
      exact does_r l b cap cx wh a to v k h1 h2 h3.1 h3.2.1 h3.2.2 h4 K h⟩
  | _, _ => none)
noncomputable abbrev eGreat : Ent := .st (conS (P := Try.prog) (f := f_l03_great) fun cargs σ0 => match cargs, σ0 with
  | [.s (.sl 0 0 n cap)], [.view ys] => some ⟨.ex (List POp) fun l => .ask (n = l.length ∧ ys = opV l ∧ l.length ≤ cap ∧ cap ≤ maxLen)
      (.all Bool (fun g => g = false → l.length ≤ 40 ∧ ∀ o ∈ l, o.m ≤ 70000) fun g => .ret (.t (.s (.bool g))) [.view (opV l)]), fun K h => by
      obtain ⟨l, ⟨e1, e2, h1, h2⟩, h⟩ := h
      subst e1; subst e2
      exact great_c l cap h1 h2 K h⟩
  | _, _ => none)
noncomputable abbrev ctPl : CT := [(f_l03_head, .pure spHead), (f_r03_May, .pure spMay), (f_mem_New, eNew), (f_l03_great, eGreat), (f_l03_does, eDoes), (f_mem_Mem_Bytes, eBytes), (f_r03_Same, eSameD), (f_mem_Mem_Size, eSize)]
theorem ctPl_ok : CTok Try.prog ctPl := ⟨ceHead, ceMay, con_ok cal_mem_New _, con_ok cal_l03_great _, con_ok cal_l03_does _, con_ok cal_mem_Mem_Bytes _, con_ok cal_r03_Same _, con_ok cal_mem_Mem_Size _, trivial⟩
set_option maxHeartbeats 4000000 in
theorem MemPlays_c (sz : Int) (l : List POp) (cap : Nat) (hl : ∀ o ∈ l, o.ok) (hcap : l.length ≤ cap) (hmax : cap ≤ maxLen) : Con Try.prog f_l03_MemPlays [.s (.int .i64 sz), .s (.sl 0 0 l.length cap)] [.view (opV l), .deep (opD l)] (.ret (.t (.s (.bool true))) [.view (opV l), .deep (opD l)]) := by
  intro K hK
  have hm' : cap ≤ 9223372036854775807 := hmax
  refine enter fn_l03_MemPlays rfl nt_l03_MemPlays rfl rfl (fun φ w0 β0 F => ?_)
  refine c_run tt_ok ctPl_ok k_l03_MemPlays [] 60 (by kernel_rfl) ?_
  refine ⟨fun hm => ?_, fun hm => ?_⟩
  · refine ⟨trivial, fun h1 => ?_, fun _ => ?_⟩
    · exfalso; simp [hm] at h1
    · obtain ⟨n, rfl, hn1, hn2⟩ := mayM_nat hm
      have h4 := mayM_mod hm
      refine ⟨fun hg => ⟨l, ⟨rfl, rfl, hcap, hmax⟩, fun g hgf => ⟨fun hc => ?_, fun hc => ?_⟩⟩, fun hg => absurd hg (by decide)⟩
      · refine ⟨trivial, ?_⟩
        exact fin_k tt_ok (rs := rs_l03_MemPlays) rfl rfl hK [0, 1] rfl rfl rfl rfl rfl rfl
      · have hgg : g = false := by simpa using hc
        obtain ⟨hl40, hlm⟩ := hgf hgg
        refine ⟨n, ⟨rfl, rfl, by simp only [maxLen]; omega, by omega⟩, ?_⟩
        show WpC _ _ _ _ _
        refine c_freeze 4 rfl rfl ?_
        have hz : List.replicate n (Value.int .u8 0) = bytesI (List.replicate n 0) := by simp [bytesI]
        refine c_loop (α := Nat × List Int × Nat) (fun x => x.1 ≤ l.length ∧ MOK x.2.1 ∧ x.2.1.length = n ∧ n ≤ x.2.2) (fun x => l.length - x.1)
          (fun x => [(0, .t (.s (.int .i64 (n : Int))), none), (1, .t (.s (.sl 0 0 l.length cap)), none), (5, .t (.s (.loc 2 0)), none), (7, .t (.s (.sl 4 0 n x.2.2)), none), (8, .t (.s (.int .i64 (x.1 : Int))), none)])
          (fun x => [.view (opV l), .deep (opD l), .blk 55 [.sl 3 0 n n], .own 5 1 n (bytesI x.2.1), .view (bytesI x.2.1)]) (0, List.replicate n 0, n)
          ⟨Nat.zero_le _, ⟨by simpa using hn1, by simpa using hn2, by simpa using h4, fun b hb => by rw [List.mem_replicate] at hb; omega⟩, by simp, Nat.le_refl _⟩ ?_ ?_
        · refine into [0, 1, 2, 3, 4] ⟨⟨_, rfl, rfl⟩, ⟨_, rfl, rfl⟩, ⟨_, rfl, rfl⟩, ⟨_, rfl, rfl⟩, ⟨_, rfl, rfl⟩, trivial⟩ ⟨_, rfl, ?_⟩ rfl rfl rfl rfl
          show [Ch.view (opV l), Ch.deep (opD l), Ch.blk 55 [SV.sl 3 0 n n], Ch.own 5 1 n (bytesI (List.replicate n 0)), Ch.view (List.replicate n (Value.int .u8 0))] = _
          rw [hz]; rfl
        · rintro ⟨i, q, cb⟩ ⟨hi, hq, hqn, hcb⟩
          simp only at hi hq hqn hcb
          dsimp only
          refine c_run' tt_ok ctPl_ok k_l03_MemPlays [57] 60 (by kernel_rfl) (by kernel_rfl) ?_
          refine ⟨fun h7 => ?_, fun h7 => ?_⟩
          · have h7' : (i : Int) < l.length := of_decide_eq_true h7
            have hil : i < l.length := by omega
            obtain ⟨o, ho⟩ : ∃ o, l[i]? = some o := ⟨l[i], List.getElem?_eq_getElem hil⟩
            have hom := List.mem_of_getElem? ho
            have hok := hl o hom
            have hrow : RowAt (opV l) (0 + i * (5 + 1)) 6 o.row := ⟨Nat.le_refl 6, by rw [Nat.zero_add]; exact op_row ho⟩
            have hw : IntKind.i64.wrap ((i : Int) + 1) = ((i + 1 : Nat) : Int) := by rw [wrap64 (by omega) (by omega)]; omega
            have hb : 0 + (i + 1) * (5 + 1) ≤ (opV l).length := by rw [opV_length]; omega
            have hdeep : (o.s, bytesI o.b) ∈ opD l := List.mem_map.2 ⟨o, hom, rfl⟩
            have hm70 := hlm o hom
            obtain ⟨wh, at_, to, v, nn, s, m, c, b⟩ := o
            refine ⟨i, ⟨rfl, hil, hb⟩, _, rfl, hrow, ?_⟩
            rcases Nat.eq_zero_or_pos c with hc0 | hc0
            · subst hc0
              obtain rfl : m = 0 := by have := hok.cap; dsimp only at this; omega
              show WpL _ _ _ _ _ _
              refine l_run tt_ok ctPl_ok k_l03_MemPlays [] 60 (by kernel_rfl) (by kernel_rfl) ?_
              refine ⟨q, ⟨hqn.symm, rfl, hqn.symm, hqn.symm, hqn.symm, rfl, hq, by rw [hqn]; exact hcb, ⟨hok.at_, hok.to, hok.v⟩, hok.n⟩, fun p hp => ?_⟩
              refine ⟨(fun hh => absurd hh (by decide)), fun _ => ?_⟩
              refine e_again (i + 1, p.1, p.2) ⟨hil, hp.1, by rw [hp.2.1, hqn], by rw [← hqn]; exact hp.2.2⟩ (by show l.length - (i + 1) < l.length - i; omega) (into [0, 1, 2, 3, 5] ⟨⟨_, rfl, rfl⟩, ⟨_, rfl, rfl⟩, ⟨_, rfl, rfl⟩, ⟨_, rfl, fvsl rfl hqn rfl⟩, ⟨_, rfl, fvi hw⟩, trivial⟩ ⟨_, rfl, ?_⟩ rfl rfl rfl rfl)
              show [Ch.view (opV l), Ch.deep (opD l), Ch.blk 55 [SV.sl 3 0 q.length q.length], Ch.own 5 1 q.length (bytesI p.1), Ch.view (bytesI p.1)] = _
              rw [hqn]; rfl
            · obtain ⟨x, hx⟩ : ∃ x, s = some x := by
                cases s with
                | none => have := (hok.nil rfl).2; dsimp only at this; omega
                | some x => exact ⟨x, rfl⟩
              subst hx
              have hsp := hok.spot hc0 x rfl
              show WpL _ _ _ _ _ _
              refine WpL.into (peelSlot 56 1 (v' := .t (.agg [.int .u8 wh, .int .i32 at_, .int .i32 to, .int .i32 v, .int .i64 nn, .sl 5 0 m c])) rfl rfl hdeep ?_ ?_) ?_
              · intro y hy
                simp at hy
                rcases hy with rfl | rfl | rfl | rfl | rfl | rfl
                all_goals first | trivial | (show (5 : Nat) < 6; decide)
              · intro β hβ
                obtain ⟨xb, xo, xs⟩ := x
                simp only at hsp
                subst hsp
                have hβ' : β 5 = rowBd (some ⟨xb, xo, none⟩) := hβ
                simp [FV.den, TV.den, SV.den, hβ', rowBd, POp.row]
              refine l_run tt_ok ctPl_ok k_l03_MemPlays [] 60 (by kernel_rfl) (by kernel_rfl) ?_
              have hbl := hok.len
              dsimp only at hbl hm70
              refine ⟨(q, b), ⟨hqn.symm, rfl, rfl, hbl.symm, hqn.symm, hqn.symm, hqn.symm, rfl, hq, by dsimp only; rw [hqn]; exact hcb, ⟨hok.at_, hok.to, hok.v⟩, hok.n, by dsimp only; omega, hok.byt⟩, fun p hp => ?_⟩
              refine ⟨(fun hh => absurd hh (by decide)), fun _ => ?_⟩
              refine e_again (i + 1, p.1, p.2) ⟨hil, hp.1, by rw [hp.2.1, hqn], by rw [← hqn]; exact hp.2.2⟩ (by show l.length - (i + 1) < l.length - i; omega) (into [0, 1, 2, 3, 6] ⟨⟨_, rfl, rfl⟩, ⟨_, rfl, rfl⟩, ⟨_, rfl, rfl⟩, ⟨_, rfl, fvsl rfl hqn rfl⟩, ⟨_, rfl, fvi hw⟩, trivial⟩ ⟨_, rfl, ?_⟩ rfl rfl rfl rfl)
              show [Ch.view (opV l), Ch.deep (opD l), Ch.blk 55 [SV.sl 3 0 q.length q.length], Ch.own 5 1 q.length (bytesI p.1), Ch.view (bytesI p.1)] = _
              rw [hqn]; rfl
          · have h7' : ¬ (i : Int) < l.length := of_decide_eq_false h7
            refine ⟨q, ⟨rfl, hqn.symm, hqn.symm, hqn.symm, hq.hi, by have := hq.lo; omega⟩, (q, q), ⟨rfl, rfl, rfl, hqn.symm, rfl⟩, ?_⟩
            have hsb : sameB q q = true := by simp [sameB]
            refine ⟨fun _ => ?_, fun h => absurd (hsb.symm.trans h) (by decide)⟩
            refine ⟨fun _ => trivial, ?_⟩
            refine fin_k tt_ok (rs := rs_l03_MemPlays) rfl rfl hK [0, 1] (t1b ?_) rfl rfl rfl rfl rfl
            rw [show sameB (q, q).1 (q, q).2 = true from hsb]; simp [hqn]
  · refine ⟨trivial, fun h1 => ?_, fun _ => ?_⟩
    · exfalso; simp [hm] at h1
    · refine ⟨fun hg => absurd hg (by decide), fun hg => ⟨rfl, fun _ => ⟨trivial, ?_⟩, fun h => absurd h (by decide)⟩⟩
      exact fin_k tt_ok (rs := rs_l03_MemPlays) rfl rfl hK [0, 1] rfl rfl rfl rfl rfl rfl
end Go.Proofs

namespace Go.Proofs
open Go Go.Sx
set_option maxRecDepth 10000
/-- What a call's bytes are in memory. -/
def POp.deep (w : World) (o : POp) : Prop := ∀ (j : Nat) (v : Value), (bytesI o.b)[j]? = some v → ∃ x, o.s = some x ∧ x.spot = none ∧ w.cell? ⟨x.block, x.off + j, none⟩ = some v
theorem opD_sat {w : World} {l : List POp} (h : ∀ o ∈ l, POp.deep w o) : ∀ p ∈ opD l, ∀ (j : Nat) (v : Value), p.2[j]? = some v → ∃ x, p.1 = some x ∧ x.spot = none ∧ w.cell? ⟨x.block, x.off + j, none⟩ = some v := by
  intro p hp
  obtain ⟨o, ho, rfl⟩ := List.mem_map.1 hp
  exact h o ho
theorem i64_fit' {x : Int} (h : (Lit.int .i64 x).wf = true) : -9223372036854775808 ≤ x ∧ x ≤ 9223372036854775807 := by
  simp [Lit.wf, IntKind.min, IntKind.max, IntKind.signed, IntKind.bits] at h
  exact h
theorem op_conv {w : World} (q : List Value) (h : ∃ vs b m c l, q = vs ++ [.slice b m c] ∧ KOK [.int .u8, .int .i32, .int .i32, .int .i32, .int .i64] vs ∧ IsRowN .u8 w b m c l) : ∃ e, (POp.ok e ∧ POp.deep w e) ∧ q = POp.vs e := by
  obtain ⟨vs, b, m, c, l, hq, hk, hr⟩ := h
  rcases vs with _ | ⟨a0, _ | ⟨a1, _ | ⟨a2, _ | ⟨a3, _ | ⟨a4, _ | ⟨a5, vs⟩⟩⟩⟩⟩⟩
  · exact hk.elim
  · exact hk.2.elim
  · exact hk.2.2.elim
  · exact hk.2.2.2.elim
  · exact hk.2.2.2.2.elim
  · obtain ⟨⟨n0, h0, w0⟩, ⟨n1, h1, w1⟩, ⟨n2, h2, w2⟩, ⟨n3, h3, w3⟩, ⟨n4, h4, w4⟩, _⟩ := hk
    subst h0; subst h1; subst h2; subst h3; subst h4
    refine ⟨⟨n0, n1, n2, n3, n4, b, m, c, l⟩, ⟨⟨i32_fit w1, i32_fit w2, i32_fit w3, (i64_fit' w4).2, hr.hlen, hr.hcap, hr.nil, hr.spot, fun x hx => u8_fit (hr.fit x hx), hr.hmax⟩, hr.deep⟩, hq⟩
  · exact hk.2.2.2.2.2.elim
end Go.Proofs

namespace Go.Proofs
open Go Go.Sx
set_option maxRecDepth 10000
noncomputable abbrev ctCp : CT := [(f_mem_Mem_none, eNone), (f_mem_Mem_Bytes, eBytes)]
theorem ctCp_ok : CTok Try.prog ctCp := ⟨con_ok cal_mem_Mem_none _, con_ok cal_mem_Mem_Bytes _, trivial⟩
theorem Copy_c (l : List Int) (hn : l.length ≤ 65536) (h0 : 1 ≤ l.length) : Con Try.prog f_mem_Mem_Copy [.s (.loc 0 0)] [mBox l.length, mOwn l]
    (.ret (.t (.s (.loc 2 0))) [mBox l.length, mOwn l, .blk 55 [.sl 3 0 l.length l.length], mOwn l]) := by
  intro K hK
  refine enter fn_mem_Mem_Copy rfl nt_mem_Mem_Copy rfl rfl (fun φ w0 β0 F => ?_)
  refine c_run tt_ok ctCp_ok k_mem_Mem_Copy [] 60 (by kernel_rfl) ?_
  refine ⟨fun h => ?_, fun h => ⟨l, ⟨rfl, rfl, rfl, rfl, hn, h0⟩, ?_⟩⟩
  · simp at h; subst h; simp at h0
  · exact fin_k tt_ok (rs := rs_mem_Mem_Copy) rfl rfl hK [0, 1, 3, 2] rfl rfl rfl rfl rfl rfl
noncomputable abbrev eCopy : Ent := .st (conS (P := Try.prog) (f := f_mem_Mem_Copy) fun cargs σ0 => match cargs, σ0 with
  | [.s (.loc 0 0)], [.blk 55 [.sl 1 0 n n'], .own 5 1 c xs] => some ⟨.ex (List Int) fun l => .ask (xs = bytesI l ∧ n = l.length ∧ n' = l.length ∧ c = l.length ∧ l.length ≤ 65536 ∧ 1 ≤ l.length)
      (.ret (.t (.s (.loc 2 0))) [mBox l.length, mOwn l, .blk 55 [.sl 3 0 l.length l.length], mOwn l]), fun K h => by
      obtain ⟨l, ⟨e1, e2, e3, e4, h1, h0⟩, h⟩ := h
      subst e1; subst e2; subst e3; subst e4
      exact Copy_c l h1 h0 K h⟩
  | _, _ => none)
end Go.Proofs

namespace Go.Proofs
open Go Go.Sx
set_option maxRecDepth 10000
noncomputable abbrev ctCo : CT := [(f_l03_head, .pure spHead), (f_r03_May, .pure spMay), (f_mem_New, eNew), (f_l03_great, eGreat), (f_l03_does, eDoes), (f_mem_Mem_Bytes, eBytes), (f_r03_Same, eSameD), (f_mem_Mem_Copy, eCopy)]
theorem ctCo_ok : CTok Try.prog ctCo := ⟨ceHead, ceMay, con_ok cal_mem_New _, con_ok cal_l03_great _, con_ok cal_l03_does _, con_ok cal_mem_Mem_Bytes _, con_ok cal_r03_Same _, con_ok cal_mem_Mem_Copy _, trivial⟩
/-- What is known of a call of a list. -/
structure OpAt (l : List POp) (i : Nat) (o : POp) : Prop where
  row : RowAt (opV l) (0 + i * (5 + 1)) 6 o.row
  lt : i < l.length
  bnd : 0 + (i + 1) * (5 + 1) ≤ (opV l).length
  deep : (o.s, bytesI o.b) ∈ opD l
  ok : o.ok
  m70 : o.m ≤ 70000
theorem op_at {l : List POp} (hl : ∀ o ∈ l, o.ok) (hlm : ∀ o ∈ l, o.m ≤ 70000) {i : Nat} (h : (i : Int) < l.length) : ∃ o, OpAt l i o := by
  have hil : i < l.length := by omega
  have ho : l[i]? = some l[i] := List.getElem?_eq_getElem hil
  have hom := List.mem_of_getElem? ho
  exact ⟨l[i], ⟨Nat.le_refl 6, by rw [Nat.zero_add]; exact op_row ho⟩, hil, by rw [opV_length]; omega, List.mem_map.2 ⟨_, hom, rfl⟩, hl _ hom, hlm _ hom⟩
set_option maxHeartbeats 16000000 in
theorem MemCopies_c (sz : Int) (l k : List POp) (cap cap2 : Nat) (hl : ∀ o ∈ l, o.ok) (hcap : l.length ≤ cap) (hmax : cap ≤ maxLen) (hk : ∀ o ∈ k, o.ok) (hcap2 : k.length ≤ cap2) (hmax2 : cap2 ≤ maxLen) :
    Con Try.prog f_l03_MemCopies [.s (.int .i64 sz), .s (.sl 0 0 l.length cap), .s (.sl 2 0 k.length cap2)] [.view (opV l), .deep (opD l), .view (opV k), .deep (opD k)] (.ret (.t (.s (.bool true))) [.view (opV l), .deep (opD l), .view (opV k), .deep (opD k)]) := by
  intro K hK
  have hm' : cap ≤ 9223372036854775807 := hmax
  have hm2' : cap2 ≤ 9223372036854775807 := hmax2
  refine enter fn_l03_MemCopies rfl nt_l03_MemCopies rfl rfl (fun φ w0 β0 F => ?_)
  refine c_run tt_ok ctCo_ok k_l03_MemCopies [] 60 (by kernel_rfl) ?_
  refine ⟨l, ⟨rfl, rfl, hcap, hmax⟩, fun g hgf => ⟨fun hg => ⟨k, ⟨rfl, rfl, hcap2, hmax2⟩, fun g2 hgf2 => ⟨fun _ => trivial, fun hc => ?_, fun hc => ?_⟩⟩, fun hg => ?_⟩⟩
  · refine ⟨trivial, ?_⟩
    exact fin_k tt_ok (rs := rs_l03_MemCopies) rfl rfl hK [0, 1, 2, 3] rfl rfl rfl rfl rfl rfl
  · have hgg : g = false := hg
    have hg2 : g2 = false := by cases g2 with
      | false => rfl
      | true => rw [hgg] at hc; simp at hc
    have hmay : mayM sz = true := by rw [hgg, hg2] at hc; simpa using hc
    obtain ⟨hl40, hlm⟩ := hgf hgg
    obtain ⟨hk40, hkm⟩ := hgf2 hg2
    obtain ⟨n, rfl, hn1, hn2⟩ := mayM_nat hmay
    have h4 := mayM_mod hmay
    refine ⟨fun _ => ?_, fun hm => absurd (hmay.symm.trans hm) (by decide)⟩
    refine ⟨fun h => absurd h (by decide), fun _ => ?_⟩
    refine ⟨n, ⟨rfl, rfl, by simp only [maxLen]; omega, by omega⟩, ?_⟩
    have hzl : (List.replicate n (0 : Int)).length = n := by simp
    refine ⟨List.replicate n 0, ⟨rfl, hzl.symm, hzl.symm, hzl.symm, by omega, by omega⟩, fun h => absurd h (by decide), fun _ => ?_⟩
    refine ⟨n, ⟨rfl, rfl, by simp only [maxLen]; omega, by omega⟩, ?_⟩
    show WpC _ _ _ _ _
    refine c_freeze 6 rfl rfl ?_
    refine c_freeze 9 rfl rfl ?_
    have hz : List.replicate n (Value.int .u8 0) = bytesI (List.replicate n 0) := by simp [bytesI]
    have hmz : MOK (List.replicate n (0 : Int)) := ⟨by rw [hzl]; exact hn1, by rw [hzl]; exact hn2, by rw [hzl]; exact h4, fun b hb => by rw [List.mem_replicate] at hb; omega⟩
    refine c_loop (α := Nat × (List Int × Nat) × (List Int × Nat)) (fun x => (MOK x.2.1.1 ∧ x.2.1.1.length = n ∧ n ≤ x.2.1.2) ∧ MOK x.2.2.1 ∧ x.2.2.1.length = n ∧ n ≤ x.2.2.2) (fun x => (l.length - x.1) + (k.length - x.1))
      (fun x => [(1, .t (.s (.sl 0 0 l.length cap)), none), (2, .t (.s (.sl 2 0 k.length cap2)), none), (7, .t (.s (.loc 4 0)), none), (9, .t (.s (.sl 6 0 n x.2.1.2)), none), (10, .t (.s (.loc 7 0)), none), (11, .t (.s (.sl 9 0 n x.2.2.2)), none), (12, .t (.s (.int .i64 (x.1 : Int))), none)])
      (fun x => [.view (opV l), .deep (opD l), .view (opV k), .deep (opD k), .blk 55 [.sl 5 0 n n], .own 5 1 n (bytesI x.2.1.1), .view (bytesI x.2.1.1), .blk 55 [.sl 8 0 n n], .own 5 1 n (bytesI x.2.2.1), .view (bytesI x.2.2.1)]) (0, (List.replicate n 0, n), (List.replicate n 0, n)) ⟨⟨hmz, hzl, Nat.le_refl _⟩, hmz, hzl, Nat.le_refl _⟩ ?_ ?_
    · refine into [0, 1, 2, 3, 4, 5, 6, 7, 8, 9] ⟨⟨_, rfl, rfl⟩, ⟨_, rfl, rfl⟩, ⟨_, rfl, rfl⟩, ⟨_, rfl, rfl⟩, ⟨_, rfl, rfl⟩, ⟨_, rfl, rfl⟩, ⟨_, rfl, rfl⟩, trivial⟩ ⟨_, rfl, ?_⟩ rfl rfl rfl rfl
      show [Ch.view (opV l), Ch.deep (opD l), Ch.view (opV k), Ch.deep (opD k), Ch.blk 55 [SV.sl 5 0 (List.replicate n (0 : Int)).length (List.replicate n (0 : Int)).length], Ch.own 5 1 (List.replicate n (0 : Int)).length (bytesI (List.replicate n 0)), Ch.view (List.replicate n (Value.int .u8 0)), Ch.blk 55 [SV.sl 8 0 (List.replicate n (0 : Int)).length (List.replicate n (0 : Int)).length], Ch.own 5 1 (List.replicate n (0 : Int)).length (bytesI (List.replicate n 0)), Ch.view (List.replicate n (Value.int .u8 0))] = _
      rw [hz, hzl]; rfl
    · rintro ⟨i, ⟨q, cb⟩, ⟨r, cc⟩⟩ ⟨⟨hq, hqn, hcb⟩, hr, hrn, hcc⟩
      simp only at hq hqn hcb hr hrn hcc
      dsimp only
      refine c_run' tt_ok ctCo_ok k_l03_MemCopies [65, 79] 60 (by kernel_rfl) (by kernel_rfl) ?_
      refine ⟨fun h7 => ?_, fun h7 => ?_⟩
      · refine ⟨fun a1 => ?_, fun a1 => ?_⟩
        · have a1' : (i : Int) < l.length := of_decide_eq_true a1
          obtain ⟨o1, ho1⟩ := op_at hl hlm a1'
          have hlt1 := ho1.lt
          obtain ⟨wh1, at1, to1, v1, nn1, s1, m1, c1, b1⟩ := o1
          have hok1 := ho1.ok
          refine ⟨i, ⟨rfl, ho1.lt, ho1.bnd⟩, _, rfl, ho1.row, ?_⟩
          rcases Nat.eq_zero_or_pos c1 with hc1 | hc1
          · subst hc1
            obtain rfl : m1 = 0 := by have := hok1.cap; dsimp only at this; omega
            show WpL _ _ _ _ _ _
            refine l_run tt_ok ctCo_ok k_l03_MemCopies [79] 60 (by kernel_rfl) (by kernel_rfl) ?_
            refine ⟨q, ⟨hqn.symm, rfl, hqn.symm, hqn.symm, hqn.symm, rfl, hq, by rw [hqn]; exact hcb, ⟨hok1.at_, hok1.to, hok1.v⟩, hok1.n⟩, fun p1 hp1 => ?_⟩
            refine ⟨fun a2 => ?_, fun a2 => ?_⟩
            · have a2' : (i : Int) < k.length := of_decide_eq_true a2
              obtain ⟨o2, ho2⟩ := op_at hk hkm a2'
              have hlt := ho2.lt
              have hw : IntKind.i64.wrap ((i : Int) + 1) = ((i + 1 : Nat) : Int) := by rw [wrap64 (by omega) (by omega)]; omega
              obtain ⟨wh2, at2, to2, v2, nn2, s2, m2, c2, b2⟩ := o2
              have hok2 := ho2.ok
              refine ⟨i, ⟨rfl, ho2.lt, ho2.bnd⟩, _, rfl, ho2.row, ?_⟩
              rcases Nat.eq_zero_or_pos c2 with hc2 | hc2
              · subst hc2
                obtain rfl : m2 = 0 := by have := hok2.cap; dsimp only at this; omega
                show WpL _ _ _ _ _ _
                refine l_run tt_ok ctCo_ok k_l03_MemCopies [] 60 (by kernel_rfl) (by kernel_rfl) ?_
                refine ⟨r, ⟨hrn.symm, rfl, hrn.symm, hrn.symm, hrn.symm, rfl, hr, by rw [hrn]; exact hcc, ⟨hok2.at_, hok2.to, hok2.v⟩, hok2.n⟩, fun p2 hp2 => ?_⟩
                refine ⟨fun hh => absurd hh (by decide), fun _ => ?_⟩
                refine e_again (i + 1, (p1.1, p1.2), (p2.1, p2.2)) ⟨⟨hp1.1, by rw [hp1.2.1, hqn], by rw [← hqn]; exact hp1.2.2⟩, hp2.1, by rw [hp2.2.1, hrn], by rw [← hrn]; exact hp2.2.2⟩ (by show (l.length - (i + 1)) + (k.length - (i + 1)) < (l.length - i) + (k.length - i); omega) (into [0, 1, 2, 3, 4, 5, 10, 7, 8, 11] ⟨⟨_, rfl, rfl⟩, ⟨_, rfl, rfl⟩, ⟨_, rfl, rfl⟩, ⟨_, rfl, fvsl rfl hqn rfl⟩, ⟨_, rfl, rfl⟩, ⟨_, rfl, fvsl rfl hrn rfl⟩, ⟨_, rfl, fvi hw⟩, trivial⟩ ⟨_, rfl, ?_⟩ rfl rfl rfl rfl)
                show [Ch.view (opV l), Ch.deep (opD l), Ch.view (opV k), Ch.deep (opD k), Ch.blk 55 [SV.sl 5 0 q.length q.length], Ch.own 5 1 q.length (bytesI p1.1), Ch.view (bytesI p1.1), Ch.blk 55 [SV.sl 8 0 r.length r.length], Ch.own 5 1 r.length (bytesI p2.1), Ch.view (bytesI p2.1)] = _
                rw [hqn, hrn]; rfl
              · obtain ⟨x2, hx2⟩ : ∃ x, s2 = some x := by
                  cases s2 with
                  | none => have := (hok2.nil rfl).2; dsimp only at this; omega
                  | some x => exact ⟨x, rfl⟩
                subst hx2
                have hsp2 := hok2.spot hc2 x2 rfl
                show WpL _ _ _ _ _ _
                refine WpL.into (peelSlot 78 3 (v' := .t (.agg [.int .u8 wh2, .int .i32 at2, .int .i32 to2, .int .i32 v2, .int .i64 nn2, .sl 11 0 m2 c2])) rfl rfl ho2.deep ?_ ?_) ?_
                · intro y hy
                  simp at hy
                  rcases hy with rfl | rfl | rfl | rfl | rfl | rfl
                  all_goals first | trivial | (show (11 : Nat) < 12; decide)
                · intro β hβ
                  obtain ⟨xb, xo, xs⟩ := x2
                  simp only at hsp2
                  subst hsp2
                  have hβ' : β 11 = rowBd (some ⟨xb, xo, none⟩) := hβ
                  simp [FV.den, TV.den, SV.den, hβ', rowBd, POp.row]
                refine l_run tt_ok ctCo_ok k_l03_MemCopies [] 60 (by kernel_rfl) (by kernel_rfl) ?_
                have hbl2 := hok2.len
                have h702 := ho2.m70
                dsimp only at hbl2 h702
                refine ⟨(r, b2), ⟨hrn.symm, rfl, rfl, hbl2.symm, hrn.symm, hrn.symm, hrn.symm, rfl, hr, by dsimp only; rw [hrn]; exact hcc, ⟨hok2.at_, hok2.to, hok2.v⟩, hok2.n, by dsimp only; omega, hok2.byt⟩, fun p2 hp2 => ?_⟩
                refine ⟨fun hh => absurd hh (by decide), fun _ => ?_⟩
                refine e_again (i + 1, (p1.1, p1.2), (p2.1, p2.2)) ⟨⟨hp1.1, by rw [hp1.2.1, hqn], by rw [← hqn]; exact hp1.2.2⟩, hp2.1, by rw [hp2.2.1, hrn], by rw [← hrn]; exact hp2.2.2⟩ (by show (l.length - (i + 1)) + (k.length - (i + 1)) < (l.length - i) + (k.length - i); omega) (into [0, 1, 2, 3, 4, 5, 10, 7, 8, 12] ⟨⟨_, rfl, rfl⟩, ⟨_, rfl, rfl⟩, ⟨_, rfl, rfl⟩, ⟨_, rfl, fvsl rfl hqn rfl⟩, ⟨_, rfl, rfl⟩, ⟨_, rfl, fvsl rfl hrn rfl⟩, ⟨_, rfl, fvi hw⟩, trivial⟩ ⟨_, rfl, ?_⟩ rfl rfl rfl rfl)
                show [Ch.view (opV l), Ch.deep (opD l), Ch.view (opV k), Ch.deep (opD k), Ch.blk 55 [SV.sl 5 0 q.length q.length], Ch.own 5 1 q.length (bytesI p1.1), Ch.view (bytesI p1.1), Ch.blk 55 [SV.sl 8 0 r.length r.length], Ch.own 5 1 r.length (bytesI p2.1), Ch.view (bytesI p2.1)] = _
                rw [hqn, hrn]; rfl
            · have hw : IntKind.i64.wrap ((i : Int) + 1) = ((i + 1 : Nat) : Int) := by rw [wrap64 (by omega) (by omega)]; omega
              refine ⟨fun hh => absurd hh (by decide), fun _ => ?_⟩
              refine e_again (i + 1, (p1.1, p1.2), (r, cc)) ⟨⟨hp1.1, by rw [hp1.2.1, hqn], by rw [← hqn]; exact hp1.2.2⟩, hr, hrn, hcc⟩ (by show (l.length - (i + 1)) + (k.length - (i + 1)) < (l.length - i) + (k.length - i); omega) (into [0, 1, 2, 3, 4, 5, 10, 7, 8, 9] ⟨⟨_, rfl, rfl⟩, ⟨_, rfl, rfl⟩, ⟨_, rfl, rfl⟩, ⟨_, rfl, fvsl rfl hqn rfl⟩, ⟨_, rfl, rfl⟩, ⟨_, rfl, rfl⟩, ⟨_, rfl, fvi hw⟩, trivial⟩ ⟨_, rfl, ?_⟩ rfl rfl rfl rfl)
              show [Ch.view (opV l), Ch.deep (opD l), Ch.view (opV k), Ch.deep (opD k), Ch.blk 55 [SV.sl 5 0 q.length q.length], Ch.own 5 1 q.length (bytesI p1.1), Ch.view (bytesI p1.1), Ch.blk 55 [SV.sl 8 0 n n], Ch.own 5 1 n (bytesI r), Ch.view (bytesI r)] = _
              rw [hqn]; rfl
          · obtain ⟨x1, hx1⟩ : ∃ x, s1 = some x := by
              cases s1 with
              | none => have := (hok1.nil rfl).2; dsimp only at this; omega
              | some x => exact ⟨x, rfl⟩
            subst hx1
            have hsp1 := hok1.spot hc1 x1 rfl
            show WpL _ _ _ _ _ _
            refine WpL.into (peelSlot 64 1 (v' := .t (.agg [.int .u8 wh1, .int .i32 at1, .int .i32 to1, .int .i32 v1, .int .i64 nn1, .sl 10 0 m1 c1])) rfl rfl ho1.deep ?_ ?_) ?_
            · intro y hy
              simp at hy
              rcases hy with rfl | rfl | rfl | rfl | rfl | rfl
              all_goals first | trivial | (show (10 : Nat) < 11; decide)
            · intro β hβ
              obtain ⟨xb, xo, xs⟩ := x1
              simp only at hsp1
              subst hsp1
              have hβ' : β 10 = rowBd (some ⟨xb, xo, none⟩) := hβ
              simp [FV.den, TV.den, SV.den, hβ', rowBd, POp.row]
            refine l_run tt_ok ctCo_ok k_l03_MemCopies [79] 60 (by kernel_rfl) (by kernel_rfl) ?_
            have hbl1 := hok1.len
            have h701 := ho1.m70
            dsimp only at hbl1 h701
            refine ⟨(q, b1), ⟨hqn.symm, rfl, rfl, hbl1.symm, hqn.symm, hqn.symm, hqn.symm, rfl, hq, by dsimp only; rw [hqn]; exact hcb, ⟨hok1.at_, hok1.to, hok1.v⟩, hok1.n, by dsimp only; omega, hok1.byt⟩, fun p1 hp1 => ?_⟩
            refine ⟨fun a2 => ?_, fun a2 => ?_⟩
            · have a2' : (i : Int) < k.length := of_decide_eq_true a2
              obtain ⟨o2, ho2⟩ := op_at hk hkm a2'
              have hlt := ho2.lt
              have hw : IntKind.i64.wrap ((i : Int) + 1) = ((i + 1 : Nat) : Int) := by rw [wrap64 (by omega) (by omega)]; omega
              obtain ⟨wh2, at2, to2, v2, nn2, s2, m2, c2, b2⟩ := o2
              have hok2 := ho2.ok
              refine ⟨i, ⟨rfl, ho2.lt, ho2.bnd⟩, _, rfl, ho2.row, ?_⟩
              rcases Nat.eq_zero_or_pos c2 with hc2 | hc2
              · subst hc2
                obtain rfl : m2 = 0 := by have := hok2.cap; dsimp only at this; omega
                show WpL _ _ _ _ _ _
                refine l_run tt_ok ctCo_ok k_l03_MemCopies [] 60 (by kernel_rfl) (by kernel_rfl) ?_
                refine ⟨r, ⟨hrn.symm, rfl, hrn.symm, hrn.symm, hrn.symm, rfl, hr, by rw [hrn]; exact hcc, ⟨hok2.at_, hok2.to, hok2.v⟩, hok2.n⟩, fun p2 hp2 => ?_⟩
                refine ⟨fun hh => absurd hh (by decide), fun _ => ?_⟩
                refine e_again (i + 1, (p1.1, p1.2), (p2.1, p2.2)) ⟨⟨hp1.1, by rw [hp1.2.1, hqn], by rw [← hqn]; exact hp1.2.2⟩, hp2.1, by rw [hp2.2.1, hrn], by rw [← hrn]; exact hp2.2.2⟩ (by show (l.length - (i + 1)) + (k.length - (i + 1)) < (l.length - i) + (k.length - i); omega) (into [0, 1, 2, 3, 4, 5, 11, 7, 8, 12] ⟨⟨_, rfl, rfl⟩, ⟨_, rfl, rfl⟩, ⟨_, rfl, rfl⟩, ⟨_, rfl, fvsl rfl hqn rfl⟩, ⟨_, rfl, rfl⟩, ⟨_, rfl, fvsl rfl hrn rfl⟩, ⟨_, rfl, fvi hw⟩, trivial⟩ ⟨_, rfl, ?_⟩ rfl rfl rfl rfl)
                show [Ch.view (opV l), Ch.deep (opD l), Ch.view (opV k), Ch.deep (opD k), Ch.blk 55 [SV.sl 5 0 q.length q.length], Ch.own 5 1 q.length (bytesI p1.1), Ch.view (bytesI p1.1), Ch.blk 55 [SV.sl 8 0 r.length r.length], Ch.own 5 1 r.length (bytesI p2.1), Ch.view (bytesI p2.1)] = _
                rw [hqn, hrn]; rfl
              · obtain ⟨x2, hx2⟩ : ∃ x, s2 = some x := by
                  cases s2 with
                  | none => have := (hok2.nil rfl).2; dsimp only at this; omega
                  | some x => exact ⟨x, rfl⟩
                subst hx2
                have hsp2 := hok2.spot hc2 x2 rfl
                show WpL _ _ _ _ _ _
                refine WpL.into (peelSlot 78 3 (v' := .t (.agg [.int .u8 wh2, .int .i32 at2, .int .i32 to2, .int .i32 v2, .int .i64 nn2, .sl 12 0 m2 c2])) rfl rfl ho2.deep ?_ ?_) ?_
                · intro y hy
                  simp at hy
                  rcases hy with rfl | rfl | rfl | rfl | rfl | rfl
                  all_goals first | trivial | (show (12 : Nat) < 13; decide)
                · intro β hβ
                  obtain ⟨xb, xo, xs⟩ := x2
                  simp only at hsp2
                  subst hsp2
                  have hβ' : β 12 = rowBd (some ⟨xb, xo, none⟩) := hβ
                  simp [FV.den, TV.den, SV.den, hβ', rowBd, POp.row]
                refine l_run tt_ok ctCo_ok k_l03_MemCopies [] 60 (by kernel_rfl) (by kernel_rfl) ?_
                have hbl2 := hok2.len
                have h702 := ho2.m70
                dsimp only at hbl2 h702
                refine ⟨(r, b2), ⟨hrn.symm, rfl, rfl, hbl2.symm, hrn.symm, hrn.symm, hrn.symm, rfl, hr, by dsimp only; rw [hrn]; exact hcc, ⟨hok2.at_, hok2.to, hok2.v⟩, hok2.n, by dsimp only; omega, hok2.byt⟩, fun p2 hp2 => ?_⟩
                refine ⟨fun hh => absurd hh (by decide), fun _ => ?_⟩
                refine e_again (i + 1, (p1.1, p1.2), (p2.1, p2.2)) ⟨⟨hp1.1, by rw [hp1.2.1, hqn], by rw [← hqn]; exact hp1.2.2⟩, hp2.1, by rw [hp2.2.1, hrn], by rw [← hrn]; exact hp2.2.2⟩ (by show (l.length - (i + 1)) + (k.length - (i + 1)) < (l.length - i) + (k.length - i); omega) (into [0, 1, 2, 3, 4, 5, 11, 7, 8, 13] ⟨⟨_, rfl, rfl⟩, ⟨_, rfl, rfl⟩, ⟨_, rfl, rfl⟩, ⟨_, rfl, fvsl rfl hqn rfl⟩, ⟨_, rfl, rfl⟩, ⟨_, rfl, fvsl rfl hrn rfl⟩, ⟨_, rfl, fvi hw⟩, trivial⟩ ⟨_, rfl, ?_⟩ rfl rfl rfl rfl)
                show [Ch.view (opV l), Ch.deep (opD l), Ch.view (opV k), Ch.deep (opD k), Ch.blk 55 [SV.sl 5 0 q.length q.length], Ch.own 5 1 q.length (bytesI p1.1), Ch.view (bytesI p1.1), Ch.blk 55 [SV.sl 8 0 r.length r.length], Ch.own 5 1 r.length (bytesI p2.1), Ch.view (bytesI p2.1)] = _
                rw [hqn, hrn]; rfl
            · have hw : IntKind.i64.wrap ((i : Int) + 1) = ((i + 1 : Nat) : Int) := by rw [wrap64 (by omega) (by omega)]; omega
              refine ⟨fun hh => absurd hh (by decide), fun _ => ?_⟩
              refine e_again (i + 1, (p1.1, p1.2), (r, cc)) ⟨⟨hp1.1, by rw [hp1.2.1, hqn], by rw [← hqn]; exact hp1.2.2⟩, hr, hrn, hcc⟩ (by show (l.length - (i + 1)) + (k.length - (i + 1)) < (l.length - i) + (k.length - i); omega) (into [0, 1, 2, 3, 4, 5, 11, 7, 8, 9] ⟨⟨_, rfl, rfl⟩, ⟨_, rfl, rfl⟩, ⟨_, rfl, rfl⟩, ⟨_, rfl, fvsl rfl hqn rfl⟩, ⟨_, rfl, rfl⟩, ⟨_, rfl, rfl⟩, ⟨_, rfl, fvi hw⟩, trivial⟩ ⟨_, rfl, ?_⟩ rfl rfl rfl rfl)
              show [Ch.view (opV l), Ch.deep (opD l), Ch.view (opV k), Ch.deep (opD k), Ch.blk 55 [SV.sl 5 0 q.length q.length], Ch.own 5 1 q.length (bytesI p1.1), Ch.view (bytesI p1.1), Ch.blk 55 [SV.sl 8 0 n n], Ch.own 5 1 n (bytesI r), Ch.view (bytesI r)] = _
              rw [hqn]; rfl
        · skip
          refine ⟨fun a2 => ?_, fun a2 => ?_⟩
          · have a2' : (i : Int) < k.length := of_decide_eq_true a2
            obtain ⟨o2, ho2⟩ := op_at hk hkm a2'
            have hlt := ho2.lt
            have hw : IntKind.i64.wrap ((i : Int) + 1) = ((i + 1 : Nat) : Int) := by rw [wrap64 (by omega) (by omega)]; omega
            obtain ⟨wh2, at2, to2, v2, nn2, s2, m2, c2, b2⟩ := o2
            have hok2 := ho2.ok
            refine ⟨i, ⟨rfl, ho2.lt, ho2.bnd⟩, _, rfl, ho2.row, ?_⟩
            rcases Nat.eq_zero_or_pos c2 with hc2 | hc2
            · subst hc2
              obtain rfl : m2 = 0 := by have := hok2.cap; dsimp only at this; omega
              show WpL _ _ _ _ _ _
              refine l_run tt_ok ctCo_ok k_l03_MemCopies [] 60 (by kernel_rfl) (by kernel_rfl) ?_
              refine ⟨r, ⟨hrn.symm, rfl, hrn.symm, hrn.symm, hrn.symm, rfl, hr, by rw [hrn]; exact hcc, ⟨hok2.at_, hok2.to, hok2.v⟩, hok2.n⟩, fun p2 hp2 => ?_⟩
              refine ⟨fun hh => absurd hh (by decide), fun _ => ?_⟩
              refine e_again (i + 1, (q, cb), (p2.1, p2.2)) ⟨⟨hq, hqn, hcb⟩, hp2.1, by rw [hp2.2.1, hrn], by rw [← hrn]; exact hp2.2.2⟩ (by show (l.length - (i + 1)) + (k.length - (i + 1)) < (l.length - i) + (k.length - i); omega) (into [0, 1, 2, 3, 4, 5, 6, 7, 8, 10] ⟨⟨_, rfl, rfl⟩, ⟨_, rfl, rfl⟩, ⟨_, rfl, rfl⟩, ⟨_, rfl, rfl⟩, ⟨_, rfl, rfl⟩, ⟨_, rfl, fvsl rfl hrn rfl⟩, ⟨_, rfl, fvi hw⟩, trivial⟩ ⟨_, rfl, ?_⟩ rfl rfl rfl rfl)
              show [Ch.view (opV l), Ch.deep (opD l), Ch.view (opV k), Ch.deep (opD k), Ch.blk 55 [SV.sl 5 0 n n], Ch.own 5 1 n (bytesI q), Ch.view (bytesI q), Ch.blk 55 [SV.sl 8 0 r.length r.length], Ch.own 5 1 r.length (bytesI p2.1), Ch.view (bytesI p2.1)] = _
              rw [hrn]; rfl
            · obtain ⟨x2, hx2⟩ : ∃ x, s2 = some x := by
                cases s2 with
                | none => have := (hok2.nil rfl).2; dsimp only at this; omega
                | some x => exact ⟨x, rfl⟩
              subst hx2
              have hsp2 := hok2.spot hc2 x2 rfl
              show WpL _ _ _ _ _ _
              refine WpL.into (peelSlot 78 3 (v' := .t (.agg [.int .u8 wh2, .int .i32 at2, .int .i32 to2, .int .i32 v2, .int .i64 nn2, .sl 10 0 m2 c2])) rfl rfl ho2.deep ?_ ?_) ?_
              · intro y hy
                simp at hy
                rcases hy with rfl | rfl | rfl | rfl | rfl | rfl
                all_goals first | trivial | (show (10 : Nat) < 11; decide)
              · intro β hβ
                obtain ⟨xb, xo, xs⟩ := x2
                simp only at hsp2
                subst hsp2
                have hβ' : β 10 = rowBd (some ⟨xb, xo, none⟩) := hβ
                simp [FV.den, TV.den, SV.den, hβ', rowBd, POp.row]
              refine l_run tt_ok ctCo_ok k_l03_MemCopies [] 60 (by kernel_rfl) (by kernel_rfl) ?_
              have hbl2 := hok2.len
              have h702 := ho2.m70
              dsimp only at hbl2 h702
              refine ⟨(r, b2), ⟨hrn.symm, rfl, rfl, hbl2.symm, hrn.symm, hrn.symm, hrn.symm, rfl, hr, by dsimp only; rw [hrn]; exact hcc, ⟨hok2.at_, hok2.to, hok2.v⟩, hok2.n, by dsimp only; omega, hok2.byt⟩, fun p2 hp2 => ?_⟩
              refine ⟨fun hh => absurd hh (by decide), fun _ => ?_⟩
              refine e_again (i + 1, (q, cb), (p2.1, p2.2)) ⟨⟨hq, hqn, hcb⟩, hp2.1, by rw [hp2.2.1, hrn], by rw [← hrn]; exact hp2.2.2⟩ (by show (l.length - (i + 1)) + (k.length - (i + 1)) < (l.length - i) + (k.length - i); omega) (into [0, 1, 2, 3, 4, 5, 6, 7, 8, 11] ⟨⟨_, rfl, rfl⟩, ⟨_, rfl, rfl⟩, ⟨_, rfl, rfl⟩, ⟨_, rfl, rfl⟩, ⟨_, rfl, rfl⟩, ⟨_, rfl, fvsl rfl hrn rfl⟩, ⟨_, rfl, fvi hw⟩, trivial⟩ ⟨_, rfl, ?_⟩ rfl rfl rfl rfl)
              show [Ch.view (opV l), Ch.deep (opD l), Ch.view (opV k), Ch.deep (opD k), Ch.blk 55 [SV.sl 5 0 n n], Ch.own 5 1 n (bytesI q), Ch.view (bytesI q), Ch.blk 55 [SV.sl 8 0 r.length r.length], Ch.own 5 1 r.length (bytesI p2.1), Ch.view (bytesI p2.1)] = _
              rw [hrn]; rfl
          · exact absurd h7 (by rw [a1, a2]; decide)

      · have hsq : sameB q q = true := by simp [sameB]
        have hsr : sameB r r = true := by simp [sameB]
        refine ⟨q, ⟨rfl, hqn.symm, hqn.symm, hqn.symm, hq.hi, by have := hq.lo; omega⟩, (q, q), ⟨rfl, rfl, rfl, hqn.symm, rfl⟩, ?_⟩
        refine ⟨fun _ => ⟨r, ⟨rfl, hrn.symm, hrn.symm, hrn.symm, hr.hi, by have := hr.lo; omega⟩, ⟨fun _ => ⟨(r, r), ⟨rfl, rfl, rfl, hrn.symm, rfl⟩, fun _ => trivial, ?_⟩, fun h => absurd (hsq.symm.trans h) (by decide)⟩⟩, fun h => absurd (hsq.symm.trans h) (by decide)⟩
        refine fin_k tt_ok (rs := rs_l03_MemCopies) rfl rfl hK [0, 1, 2, 3] (t1b ?_) rfl rfl rfl rfl rfl
        rw [show sameB (q, q).1 (q, q).2 = true from hsq, show sameB (r, r).1 (r, r).2 = true from hsr]; rfl
  · refine ⟨hg, fun _ => trivial, fun _ => ⟨trivial, ?_⟩, fun h => ?_⟩
    · exact fin_k tt_ok (rs := rs_l03_MemCopies) rfl rfl hK [0, 1, 2, 3] rfl rfl rfl rfl rfl rfl
    · exfalso; simp at h
end Go.Proofs
