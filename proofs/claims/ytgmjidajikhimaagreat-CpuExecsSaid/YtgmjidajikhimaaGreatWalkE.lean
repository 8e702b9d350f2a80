/- The reference's Mine. -/
import Derived.Test.YtgmjidajikhimaaGreatWalkD
import Derived.Test.YtgmjidajikhimaaGreatWalkC

namespace Go.Proofs
open Go Go.Sx
set_option maxRecDepth 10000
def opsL : List Int := [0, 1, 2, 4, 5, 6, 8, 9, 10, 12, 16, 19, 22, 25, 26, 27, 29, 31, 32, 33, 41, 44, 49, 50, 51, 52, 53, 54, 55, 56, 58, 59, 60, 63, 64, 65, 66, 70, 74, 75, 76, 77, 79, 82, 83, 86, 87, 88, 89]
def opsV : List Value := opsL.map fun v => Value.int .i32 v
theorem opsV_at {i : Nat} (h : i < 49) : opsV[0 + i * (0 + 1)]? = some (SV.cv (.int .i32 (opsL.getD i 0))) := by
  have e : 0 + i * (0 + 1) = i := by omega
  rw [e]
  have : ∀ i : Fin 49, opsV[i.val]? = some (SV.cv (.int .i32 (opsL.getD i.val 0))) := by intro i; simp only [opsV, List.getElem?_map]; match i with | ⟨i, hi⟩ => simp [List.getD, SV.cv, List.getElem?_eq_getElem (show i < opsL.length from hi)]; rfl
  exact this ⟨i, h⟩
theorem opsL_mem {i : Nat} (h : i < 49) : opsL.getD i 0 ∈ opsL := by
  rw [List.getD, List.getElem?_eq_getElem (show i < opsL.length from h)]; exact List.getElem_mem _
theorem ops_in : ∀ n : Fin 128, opsL.contains (n.val : Int) = (isBin (n.val : Int) || isOth (n.val : Int)) := by decide +kernel
theorem ops_has (o : Int) : opsL.contains o = (isBin o || isOth o) := by
  by_cases h : 0 ≤ o ∧ o < 128
  · obtain ⟨n, hn⟩ := Int.eq_ofNat_of_zero_le h.1
    subst hn
    exact ops_in ⟨n, by omega⟩
  · have hf : ∀ c : Int, 0 ≤ c → c < 128 → (o == c) = false := fun c h0 h1 => by rw [beq_eq_false_iff_ne]; intro e; subst e; exact h ⟨h0, h1⟩
    have h1 : opsL.contains o = false := by
      rw [Bool.eq_false_iff]; intro hc
      rw [List.contains_iff_mem] at hc
      have : ∀ x ∈ opsL, 0 ≤ x ∧ x < 128 := by decide
      exact h (this o hc)
    rw [h1]; symm
    simp only [isBin, isOth, Bool.or_eq_false_iff]
    refine ⟨?_, ?_⟩
    all_goals repeat' (first | exact hf _ (by decide) (by decide) | refine ⟨?_, ?_⟩)
noncomputable abbrev ctRm : CT := [(f_r28_operations, in_r28_operations [])]
theorem ctRm_ok : CTok Tryz.prog ctRm := ⟨in_r28_operations_ok (ct := []) trivial, trivial⟩
set_option maxHeartbeats 2000000 in
theorem RMine_c (fn o : Int) : Con Tryz.prog f_r28_Mine [.agg [.int .u8 fn, .int .i32 o]] [] (.ret (.t (.s (.bool (mineB fn o)))) []) := by
  intro K hK
  refine enter fn_r28_Mine rfl nt_r28_Mine rfl rfl (fun φ w0 β0 F => ?_)
  refine c_run tt_ok ctRm_ok k_r28_Mine [] 60 (by kernel_rfl) ?_
  refine ⟨fun h => ?_, fun h => ?_⟩
  · rw [show mineB fn o = (bif (bif decide (fn < 15) then fn != 2 else false) then fn != 6 else false) by unfold mineB; rw [show (fn != 15) = true from h]; rfl] at hK
    exact fin_k tt_ok (rs := rs_r28_Mine) rfl rfl hK [] rfl rfl rfl rfl rfl rfl
  · rw [show mineB fn o = (isBin o || isOth o) by unfold mineB; rw [show (fn != 15) = false from h]; rfl] at hK
    clear h
    show WpC _ _ _ _ _
    refine c_loop (α := Nat) (fun i => i ≤ 49 ∧ ∀ j, j < i → opsL.getD j 0 ≠ o) (fun i => 49 - i)
      (fun i => [(1, .t (.s (.loc 0 0)), none), (3, .t (.s (.sl 1 0 49 49)), none), (4, .t (.s (.int .i64 (i : Int))), none)])
      (fun _ => [.blk 29 [.int .u8 fn, .int .i32 o], .own 21 1 49 opsV]) 0 ⟨Nat.zero_le _, fun j hj => absurd hj (Nat.not_lt_zero _)⟩ ?_ ?_
    · exact into [0, 1] ⟨⟨_, rfl, rfl⟩, ⟨_, rfl, rfl⟩, ⟨_, rfl, rfl⟩, trivial⟩ ⟨_, rfl, rfl⟩ rfl rfl rfl rfl
    · intro i hi
      obtain ⟨hi1, hi2⟩ := hi
      dsimp only
      refine c_run' tt_ok ctRm_ok k_r28_Mine [] 60 (by kernel_rfl) (by kernel_rfl) ?_
      refine ⟨fun h => ?_, fun h => ?_⟩
      · have hlt : i < 49 := by have := of_decide_eq_true h; omega
        refine ⟨i, ⟨rfl, hlt, by show 0 + (i + 1) * (0 + 1) ≤ 49; omega⟩, .int .i32 (opsL.getD i 0), rfl, opsV_at hlt, ?_⟩
        refine ⟨fun h2 => ?_, fun h2 => ?_⟩
        · rw [show (isBin o || isOth o) = true by rw [← ops_has, List.contains_iff_mem]; rw [← eq_of_beq h2]; exact opsL_mem hlt] at hK
          exact fin_k tt_ok (rs := rs_r28_Mine) rfl rfl hK [] rfl rfl rfl rfl rfl rfl
        · refine e_again (i + 1) ⟨by show i + 1 ≤ 49; omega, fun j hj => ?_⟩ (by show 49 - (i + 1) < 49 - i; omega) (into [0, 1] ⟨⟨_, rfl, rfl⟩, ⟨_, rfl, rfl⟩, ⟨_, rfl, fvi (wrapSucc (by omega))⟩, trivial⟩ ⟨_, rfl, rfl⟩ rfl rfl rfl rfl)
          by_cases hji : j = i
          · subst hji; exact ne_of_beq_false (show (opsL.getD j 0 == o) = false from h2)
          · exact hi2 j (by omega)
      · have hge : 49 ≤ i := by have := of_decide_eq_false h; omega
        rw [show (isBin o || isOth o) = false by
          rw [← ops_has, Bool.eq_false_iff]; intro hc
          rw [List.contains_iff_mem] at hc
          obtain ⟨j, hj, e⟩ := List.getElem_of_mem hc
          have hj49 : j < 49 := hj
          exact hi2 j (by omega) (by rw [← e]; simp [List.getD, List.getElem?_eq_getElem hj])] at hK
        exact fin_k tt_ok (rs := rs_r28_Mine) rfl rfl hK [] rfl rfl rfl rfl rfl rfl
def spRMine : List TV → Option (Prop × FV)
  | [.agg [.int .u8 fn, .int .i32 o]] => some (True, .t (.s (.bool (mineB fn o))))
  | _ => none
theorem ceRMine : CEok Tryz.prog f_r28_Mine spRMine := ⟨cal_r28_Mine, fun args p v h hp => by
  unfold spRMine at h; split at h
  · cases h; exact (RMine_c _ _).pure
  · cases h⟩
end Go.Proofs

namespace Go.Proofs.R3
open Go Go.Sx
set_option maxRecDepth 10000
theorem one_seg {ys : List Value} {a b : Nat} (h : ∀ u ∈ ys, u.oneCell' = true) : ∀ u ∈ seg ys a b, u.oneCell' = true := fun u hu => h u (List.mem_of_mem_drop (List.mem_of_mem_take hu))
theorem seg_full (l : List Int) : seg (bytesI l) 0 l.length = bytesI l := by rw [seg_bytesI, List.drop_zero, List.take_length]
theorem put_v (l x : List Int) (cap cb : Nat) (i : Nat) (hi : i + x.length ≤ l.length) (hn : l.length ≤ 65536) (hc : l.length ≤ cap) : Con Tryz.prog f_r03_put [.s (.sl 0 0 l.length cap), .s (.int .i64 (i : Int)), .s (.sl 1 0 x.length cb)] [.view (bytesI l), .view (bytesI x)]
    (.all Nat (fun c => l.length ≤ c) fun c => .ret (.t (.s (.sl 2 0 l.length c))) [.view (bytesI l), .view (bytesI x), .view (bytesI (setL l i x))]) := by
  intro K hK
  refine enter fn_r03_put rfl nt_r03_put rfl rfl (fun φ w0 β0 F => ?_)
  refine c_run tt_ok (ct := []) trivial k_r03_put [] 60 (by kernel_rfl) ?_
  refine ⟨0, i, ⟨_, _, rfl, rfl, rfl, rfl⟩, ⟨by omega, by omega⟩, ?_⟩
  refine ⟨⟨by simp [seg]; omega, one_seg (one_seg (bytesI_one _)), by simp only [maxLen]; omega, by omega⟩, fun c1 h1 h1' => ?_⟩
  refine ⟨⟨rfl, by simp [seg]; omega, by simp, one_seg (bytesI_one _), by simp only [maxLen]; omega, by omega⟩, fun c2 h2 h2' => ?_⟩
  refine ⟨i + x.length, l.length, ⟨_, _, rfl, rfl, ?_, rfl⟩, ⟨by omega, by omega⟩, ?_⟩
  · show IntKind.i64.wrap ((i : Int) + (x.length : Int)) = _
    rw [wrap64 (by omega) (by omega)]; omega
  refine ⟨⟨rfl, by simp [seg]; omega, by simp [seg], one_seg (one_seg (bytesI_one _)), by simp only [maxLen]; omega, by omega⟩, fun c3 h3 h3' => ?_⟩
  show WpE _ _ _ _ _
  refine e_freeze 7 rfl rfl ?_
  refine fin_k tt_ok (rs := rs_r03_put) rfl rfl (hK c3 (by omega)) [0, 1, 7] ?_ ?_ rfl rfl rfl rfl
  · rw [show i - 0 + x.length + (l.length - (i + x.length)) = l.length by omega]; rfl
  · have e : seg (seg (bytesI l) (0 + 0 * 1) ((i - 0) * 1)) 0 ((i - 0) * 1) ++ seg (bytesI x) 0 (x.length * 1) ++ seg (seg (bytesI l) (0 + (i + x.length) * 1) ((l.length - (i + x.length)) * 1)) 0 ((l.length - (i + x.length)) * 1) = bytesI (setL l i x) := by
      simp only [Nat.mul_one, Nat.add_zero, Nat.zero_add, Nat.sub_zero, seg_bytesI, List.drop_zero, setL, bytesI_append, List.take_take, Nat.min_self, List.take_length]
      rw [List.take_of_length_le (l := List.drop (i + x.length) l) (by simp)]
    simp only [pickL, List.getElem?_cons_zero, List.getElem?_cons_succ]
    rw [e]; rfl
theorem put_o (l x : List Int) (cap cb : Nat) (i : Nat) (hi : i + x.length ≤ l.length) (hn : l.length ≤ 65536) (hc : l.length ≤ cap) : Con Tryz.prog f_r03_put [.s (.sl 0 0 l.length cap), .s (.int .i64 (i : Int)), .s (.sl 1 0 x.length cb)] [.view (bytesI l), .own 5 1 cb (bytesI x)]
    (.all Nat (fun c => l.length ≤ c) fun c => .ret (.t (.s (.sl 2 0 l.length c))) [.view (bytesI l), .view (bytesI x), .view (bytesI (setL l i x))]) := by
  intro K hK
  refine enter fn_r03_put rfl nt_r03_put rfl rfl (fun φ w0 β0 F => ?_)
  refine c_freeze 1 rfl rfl ?_
  refine c_run tt_ok (ct := []) trivial k_r03_put [] 60 (by kernel_rfl) ?_
  refine ⟨0, i, ⟨_, _, rfl, rfl, rfl, rfl⟩, ⟨by omega, by omega⟩, ?_⟩
  refine ⟨⟨by simp [seg]; omega, one_seg (one_seg (bytesI_one _)), by simp only [maxLen]; omega, by omega⟩, fun c1 h1 h1' => ?_⟩
  refine ⟨⟨rfl, by simp [seg]; omega, by simp, one_seg (bytesI_one _), by simp only [maxLen]; omega, by omega⟩, fun c2 h2 h2' => ?_⟩
  refine ⟨i + x.length, l.length, ⟨_, _, rfl, rfl, ?_, rfl⟩, ⟨by omega, by omega⟩, ?_⟩
  · show IntKind.i64.wrap ((i : Int) + (x.length : Int)) = _
    rw [wrap64 (by omega) (by omega)]; omega
  refine ⟨⟨rfl, by simp [seg]; omega, by simp [seg], one_seg (one_seg (bytesI_one _)), by simp only [maxLen]; omega, by omega⟩, fun c3 h3 h3' => ?_⟩
  show WpE _ _ _ _ _
  refine e_freeze 7 rfl rfl ?_
  refine fin_k tt_ok (rs := rs_r03_put) rfl rfl (hK c3 (by omega)) [0, 1, 7] ?_ ?_ rfl rfl rfl rfl
  · rw [show i - 0 + x.length + (l.length - (i + x.length)) = l.length by omega]; rfl
  · have e : seg (seg (bytesI l) (0 + 0 * 1) ((i - 0) * 1)) 0 ((i - 0) * 1) ++ seg (bytesI x) 0 (x.length * 1) ++ seg (seg (bytesI l) (0 + (i + x.length) * 1) ((l.length - (i + x.length)) * 1)) 0 ((l.length - (i + x.length)) * 1) = bytesI (setL l i x) := by
      simp only [Nat.mul_one, Nat.add_zero, Nat.zero_add, Nat.sub_zero, seg_bytesI, List.drop_zero, setL, bytesI_append, List.take_take, Nat.min_self, List.take_length]
      rw [List.take_of_length_le (l := List.drop (i + x.length) l) (by simp)]
    simp only [pickL, List.getElem?_cons_zero, List.getElem?_cons_succ]
    rw [e]; rfl
abbrev PutOut (l x : List Int) (i : Nat) : Out := .all Nat (fun c => l.length ≤ c) fun c => .ret (.t (.s (.sl 2 0 l.length c))) [.view (bytesI l), .view (bytesI x), .view (bytesI (setL l i x))]
noncomputable abbrev ePut : Ent := .st (conS (P := Tryz.prog) (f := f_r03_put) fun cargs σ0 => match cargs, σ0 with
  | [.s (.sl 0 0 n cap), .s (.int .i64 i), .s (.sl 1 0 k cb)], [.view ys, .own 5 1 cb' xs] => some ⟨.ex (List Int × List Int × Nat) fun p => .ask (ys = bytesI p.1 ∧ n = p.1.length ∧ xs = bytesI p.2.1 ∧ k = p.2.1.length ∧ cb' = cb ∧ i = (p.2.2 : Int) ∧ p.2.2 + p.2.1.length ≤ p.1.length ∧ p.1.length ≤ 65536 ∧ p.1.length ≤ cap)
      (PutOut p.1 p.2.1 p.2.2), fun K h => by
      obtain ⟨⟨l, x, j⟩, ⟨e1, e2, e3, e4, e5, e6, h1, h2, h3⟩, h⟩ := h
      subst e1; subst e2; subst e3; subst e4; subst e5; subst e6
      exact put_o l x cap cb' j h1 h2 h3 K h⟩
  | [.s (.sl 0 0 n cap), .s (.int .i64 i), .s (.sl 1 0 k cb)], [.view ys, .view xs] => some ⟨.ex (List Int × List Int × Nat) fun p => .ask (ys = bytesI p.1 ∧ n = p.1.length ∧ xs = bytesI p.2.1 ∧ k = p.2.1.length ∧ i = (p.2.2 : Int) ∧ p.2.2 + p.2.1.length ≤ p.1.length ∧ p.1.length ≤ 65536 ∧ p.1.length ≤ cap)
      (PutOut p.1 p.2.1 p.2.2), fun K h => by
      obtain ⟨⟨l, x, j⟩, ⟨e1, e2, e3, e4, e6, h1, h2, h3⟩, h⟩ := h
      subst e1; subst e2; subst e3; subst e4; subst e6
      exact put_v l x cap cb j h1 h2 h3 K h⟩
  | _, _ => none)
noncomputable abbrev eFour : Ent := .st (conS (P := Tryz.prog) (f := f_r03_Four) fun cargs σ0 => match cargs, σ0 with
  | [.s (.int .i32 v)], [] => some ⟨.ret (.t (.s (.sl 0 0 4 4))) [.own 5 1 4 (bytesI [byK v 0, byK v 1, byK v 2, byK v 3])], fun K h => Four_c v K h⟩
  | _, _ => none)
noncomputable abbrev ctPu : CT := [(f_r03_Index, .pure spIndex), (f_r03_Lies, .pure spLies), (f_r03_put, ePut), (f_r03_Four, eFour)]
theorem ctPu_ok : CTok Tryz.prog ctPu := ⟨ceIndex, ceLies, con_ok cal_r03_put _, con_ok cal_r03_Four _, trivial⟩
/-- A memory that is told anew, or the same one with an error. -/
abbrev MemOut (b : Bool) (l l' : List Int) (cap : Nat) : Out := .br b (.ret (.tup [.s (.sl 0 0 l.length cap), .s (.int .i64 4)]) [.view (bytesI l)])
  (.all Nat (fun c => l.length ≤ c) fun c => .ret (.tup [.s (.sl 1 0 l.length c), .s (.int .i64 0)]) [.view (bytesI l), .view (bytesI l')])
theorem lies_i {n : Nat} {a k : Int} (ha : I32 a) (hk : 0 ≤ k) (h : liesB n a k = true) : 0 ≤ ofAt a ∧ ofAt a + k ≤ n ∧ ofAt a < n :=
  spanBad_i ha (k := k) (n := n) (by have := lies_span n a k hk; rw [h] at this; simpa using this.symm)
theorem RSetByte_c (l : List Int) (cap : Nat) (a v : Int) (hn : l.length ≤ 65536) (ha : I32 a) (hc : l.length ≤ cap) : Con Tryz.prog f_r03_SetByte [.s (.sl 0 0 l.length cap), .s (.int .i32 a), .s (.int .u8 v)] [.view (bytesI l)]
    (MemOut (!liesB l.length a 1) l (setL l (ofAt a).toNat [v]) cap) := by
  intro K ⟨hK1, hK2⟩
  refine enter fn_r03_SetByte rfl nt_r03_SetByte rfl rfl (fun φ w0 β0 F => ?_)
  refine c_run tt_ok ctPu_ok k_r03_SetByte [] 60 (by kernel_rfl) ?_
  refine ⟨⟨by omega, by omega, ha⟩, fun h => ?_, fun h => ?_⟩
  · exact fin_k tt_ok (rs := rs_r03_SetByte) rfl rfl (hK1 h) [0] rfl rfl rfl rfl rfl rfl
  · have hb : liesB l.length a 1 = true := by simpa using h
    have hi := lies_i ha (by decide) hb
    refine ⟨ha, (l, [v], (ofAt a).toNat), ⟨rfl, rfl, rfl, rfl, rfl, (Int.toNat_of_nonneg hi.1).symm, by simp; omega, hn, hc⟩, fun c h1 => ?_⟩
    exact fin_k tt_ok (rs := rs_r03_SetByte) rfl rfl (hK2 h c h1) [0, 2] rfl rfl rfl rfl rfl rfl
theorem setW_four {l : List Int} {i : Nat} (v : Int) (h : i + 4 ≤ l.length) : setL l i [byK v 0, byK v 1, byK v 2, byK v 3] = setW l i v := by
  apply List.ext_getElem?
  intro j
  have hl : (setW l i v).length = l.length := stW_length h 4 (by decide)
  have hl' : (setL l i [byK v 0, byK v 1, byK v 2, byK v 3]).length = l.length := setL_length (by simpa using h)
  rcases Nat.lt_or_ge j l.length with hj | hj
  · have e := stW_get (v := v) h 4 (by decide) j
    rw [show stW l i v 4 = setW l i v from rfl] at e
    have e2 : (setL l i [byK v 0, byK v 1, byK v 2, byK v 3]).getD j 0 = if i ≤ j ∧ j < i + 4 then byK v (j - i) else l.getD j 0 := by
      unfold setL
      simp only [List.getD_eq_getElem?_getD]
      by_cases h1 : j < i
      · rw [List.append_assoc, List.getElem?_append_left (by simp; omega), List.getElem?_take_of_lt h1, if_neg (by omega)]
      · by_cases h2 : j < i + 4
        · rw [List.append_assoc, List.getElem?_append_right (by simp; omega), List.getElem?_append_left (by simp; omega), if_pos (by omega)]
          have hm : min i l.length = i := by omega
          simp only [List.length_take, hm]
          obtain ⟨k, hk, rfl⟩ : ∃ k, k < 4 ∧ j = i + k := ⟨j - i, by omega, by omega⟩
          rw [Nat.add_sub_cancel_left]
          match k, hk with
          | 0, _ => rfl
          | 1, _ => rfl
          | 2, _ => rfl
          | 3, _ => rfl
        · rw [List.getElem?_append_right (by simp; omega), if_neg (by omega)]
          simp only [List.length_append, List.length_take, List.length_cons, List.length_nil, List.getElem?_drop]
          congr 2
          omega
    rw [← e] at e2
    simpa [List.getD_eq_getElem?_getD, hl, hl', hj] using e2
  · rw [List.getElem?_eq_none (by omega), List.getElem?_eq_none (by omega)]
theorem RSetWord_c (l : List Int) (cap : Nat) (a v : Int) (hn : l.length ≤ 65536) (h4 : l.length % 4 = 0) (ha : I32 a) (hc : l.length ≤ cap) : Con Tryz.prog f_r03_SetWord [.s (.sl 0 0 l.length cap), .s (.int .i32 a), .s (.int .i32 v)] [.view (bytesI l)]
    (MemOut (!liesB l.length a 1) l (setW l (ofAt (wAt a)).toNat v) cap) := by
  intro K ⟨hK1, hK2⟩
  refine enter fn_r03_SetWord rfl nt_r03_SetWord rfl rfl (fun φ w0 β0 F => ?_)
  refine c_run tt_ok ctPu_ok k_r03_SetWord [] 60 (by kernel_rfl) ?_
  refine ⟨⟨by omega, by omega, ha⟩, fun h => ?_, fun h => ?_⟩
  · exact fin_k tt_ok (rs := rs_r03_SetWord) rfl rfl (hK1 h) [0] rfl rfl rfl rfl rfl rfl
  · have hb : liesB l.length a 1 = true := by simpa using h
    have hi := lies_i ha (by decide) hb
    have hw : (ofAt (wAt a)).toNat + 4 ≤ l.length := by unfold ofAt wAt at *; omega
    have ei : IntKind.i64.wrap (ofAt a - (ofAt a).tmod 4) = ((ofAt (wAt a)).toNat : Int) := by
      rw [(tmod4 _).1 hi.1, wrap64 (by omega) (by omega)]; unfold ofAt wAt at *; omega
    refine ⟨ha, (l, [byK v 0, byK v 1, byK v 2, byK v 3], (ofAt (wAt a)).toNat), ⟨rfl, rfl, rfl, rfl, rfl, ei, hw, hn, hc⟩, fun c h1 => ?_⟩
    refine fin_k tt_ok (rs := rs_r03_SetWord) rfl rfl (hK2 h c h1) [0, 2] rfl ?_ rfl rfl rfl rfl
    rw [← setW_four v hw]; rfl
theorem RRead_c (l : List Int) (cap : Nat) (a k : Int) (hn : l.length ≤ 65536) (ha : I32 a) (hc : l.length ≤ cap) (hk : k ≤ 9223372036854775807) : Con Tryz.prog f_r03_Read [.s (.sl 0 0 l.length cap), .s (.int .i32 a), .s (.int .i64 k)] [.view (bytesI l)]
    (.br (decide (k < 0)) (.ret (.tup [.s (.raw (.slice none 0 0)), .s (.int .i64 2)]) [.view (bytesI l)])
      (.br (k == 0) (.ret (.tup [.s (.raw (.slice none 0 0)), .s (.int .i64 0)]) [.view (bytesI l)])
        (.br (!liesB l.length a k) (.ret (.tup [.s (.raw (.slice none 0 0)), .s (.int .i64 4)]) [.view (bytesI l)])
          (.all Nat (fun c => k.toNat ≤ c) fun c => .ret (.tup [.s (.sl 1 0 k.toNat c), .s (.int .i64 0)]) [.view (bytesI l), .view (bytesI ((l.drop (ofAt a).toNat).take k.toNat))])))) := by
  intro K ⟨hK1, hK⟩
  refine enter fn_r03_Read rfl nt_r03_Read rfl rfl (fun φ w0 β0 F => ?_)
  refine c_run tt_ok ctPu_ok k_r03_Read [] 60 (by kernel_rfl) ?_
  refine ⟨fun h => ?_, fun hk1 => ⟨fun h => ?_, fun hk2 => ⟨⟨by omega, by omega, ha⟩, fun h => ?_, fun h => ?_⟩⟩⟩
  · exact fin_k tt_ok (rs := rs_r03_Read) rfl rfl (hK1 h) [0] rfl rfl rfl rfl rfl rfl
  · exact fin_k tt_ok (rs := rs_r03_Read) rfl rfl ((hK hk1).1 h) [0] rfl rfl rfl rfl rfl rfl
  · exact fin_k tt_ok (rs := rs_r03_Read) rfl rfl (((hK hk1).2 hk2).1 h) [0] rfl rfl rfl rfl rfl rfl
  · have hk0 : ¬ k < 0 := of_decide_eq_false hk1
    have hb : liesB l.length a k = true := by simpa using h
    have hi := lies_i ha (by omega) hb
    have hKK := ((hK hk1).2 hk2).2 h
    have e1 : IntKind.i64.wrap (ofAt a + k) = (((ofAt a).toNat + k.toNat : Nat) : Int) := by rw [wrap64 (by omega) (by omega)]; omega
    refine ⟨ha, ha, (ofAt a).toNat, (ofAt a).toNat + k.toNat, ⟨_, _, rfl, rfl, (Int.toNat_of_nonneg hi.1).symm, e1⟩, ⟨by omega, by omega⟩, ?_⟩
    refine ⟨⟨by simp [seg]; omega, one_seg (one_seg (bytesI_one _)), by simp only [maxLen]; omega, by omega⟩, fun c1 h1 h1' => ?_⟩
    show WpE _ _ _ _ _
    refine e_freeze 3 rfl rfl ?_
    refine fin_k tt_ok (rs := rs_r03_Read) rfl rfl (hKK c1 (by omega)) [0, 3] ?_ ?_ rfl rfl rfl rfl
    · rw [show (ofAt a).toNat + k.toNat - (ofAt a).toNat = k.toNat by omega]; rfl
    · have e2 : seg (seg (bytesI l) (0 + (ofAt a).toNat * 1) (((ofAt a).toNat + k.toNat - (ofAt a).toNat) * 1)) 0 (((ofAt a).toNat + k.toNat - (ofAt a).toNat) * 1) = bytesI ((l.drop (ofAt a).toNat).take k.toNat) := by
        rw [show (ofAt a).toNat + k.toNat - (ofAt a).toNat = k.toNat by omega]
        simp only [Nat.mul_one, Nat.zero_add, seg_bytesI, List.drop_zero, List.take_take, Nat.min_self]
      simp only [pickL, List.getElem?_cons_zero, List.getElem?_cons_succ]
      rw [← e2]; rfl
end Go.Proofs.R3
namespace Go.Proofs.R3
open Go Go.Sx
set_option maxRecDepth 10000
theorem RWrite_c (l x : List Int) (cap cb : Nat) (a : Int) (hn : l.length ≤ 65536) (ha : I32 a) (hc : l.length ≤ cap) (hx : x.length ≤ 4294967296) : Con Tryz.prog f_r03_Write [.s (.sl 0 0 l.length cap), .s (.int .i32 a), .s (.sl 1 0 x.length cb)] [.view (bytesI l), .view (bytesI x)]
    (.br ((x.length : Int) == 0) (.ret (.tup [.s (.sl 0 0 l.length cap), .s (.int .i64 0)]) [.view (bytesI l), .view (bytesI x)])
      (.br (!liesB l.length a x.length) (.ret (.tup [.s (.sl 0 0 l.length cap), .s (.int .i64 4)]) [.view (bytesI l), .view (bytesI x)])
        (.all Nat (fun c => l.length ≤ c) fun c => .ret (.tup [.s (.sl 2 0 l.length c), .s (.int .i64 0)]) [.view (bytesI l), .view (bytesI x), .view (bytesI (setL l (ofAt a).toNat x))]))) := by
  intro K ⟨hK1, hK⟩
  refine enter fn_r03_Write rfl nt_r03_Write rfl rfl (fun φ w0 β0 F => ?_)
  refine c_run tt_ok ctPu_ok k_r03_Write [] 60 (by kernel_rfl) ?_
  refine ⟨fun h => ?_, fun hk2 => ⟨⟨by omega, by omega, ha⟩, fun h => ?_, fun h => ?_⟩⟩
  · exact fin_k tt_ok (rs := rs_r03_Write) rfl rfl (hK1 h) [0, 1] rfl rfl rfl rfl rfl rfl
  · exact fin_k tt_ok (rs := rs_r03_Write) rfl rfl ((hK hk2).1 h) [0, 1] rfl rfl rfl rfl rfl rfl
  · have hb : liesB l.length a x.length = true := by simpa using h
    have hi := lies_i ha (by omega) hb
    refine ⟨ha, (l, x, (ofAt a).toNat), ⟨rfl, rfl, rfl, rfl, (Int.toNat_of_nonneg hi.1).symm, by show (ofAt a).toNat + x.length ≤ l.length; omega, hn, hc⟩, fun c h1 => ?_⟩
    exact fin_k tt_ok (rs := rs_r03_Write) rfl rfl ((hK hk2).2 h c h1) [0, 1, 2] rfl rfl rfl rfl rfl rfl
theorem RWrite_n (l : List Int) (cap cb : Nat) (a : Int) (b : Option Addr) : Con Tryz.prog f_r03_Write [.s (.sl 0 0 l.length cap), .s (.int .i32 a), .s (.raw (.slice b 0 cb))] [.view (bytesI l)]
    (.ret (.tup [.s (.sl 0 0 l.length cap), .s (.int .i64 0)]) [.view (bytesI l)]) := by
  intro K hK
  refine enter fn_r03_Write rfl nt_r03_Write rfl rfl (fun φ w0 β0 F => ?_)
  refine c_run tt_ok ctPu_ok k_r03_Write [] 60 (by kernel_rfl) ?_
  refine ⟨fun h => ?_, fun hk2 => absurd hk2 (by decide)⟩
  exact fin_k tt_ok (rs := rs_r03_Write) rfl rfl hK [0] rfl rfl rfl rfl rfl rfl
noncomputable abbrev eRWrite : Ent := .st (conS (P := Tryz.prog) (f := f_r03_Write) fun cargs σ0 => match cargs, σ0 with
  | [.s (.sl 0 0 n cap), .s (.int .i32 a), .s (.sl 1 0 k cb)], [.view ys, .view xs] => some ⟨.ex (List Int × List Int) fun p => .ask (ys = bytesI p.1 ∧ n = p.1.length ∧ xs = bytesI p.2 ∧ k = p.2.length ∧ p.1.length ≤ 65536 ∧ I32 a ∧ p.1.length ≤ cap ∧ p.2.length ≤ 4294967296)
      (.br ((p.2.length : Int) == 0) (.ret (.tup [.s (.sl 0 0 p.1.length cap), .s (.int .i64 0)]) [.view (bytesI p.1), .view (bytesI p.2)])
      (.br (!liesB p.1.length a p.2.length) (.ret (.tup [.s (.sl 0 0 p.1.length cap), .s (.int .i64 4)]) [.view (bytesI p.1), .view (bytesI p.2)])
        (.all Nat (fun c => p.1.length ≤ c) fun c => .ret (.tup [.s (.sl 2 0 p.1.length c), .s (.int .i64 0)]) [.view (bytesI p.1), .view (bytesI p.2), .view (bytesI (setL p.1 (ofAt a).toNat p.2))]))), fun K h => by
      obtain ⟨⟨l, x⟩, ⟨e1, e2, e3, e4, h1, h2, h3, h4⟩, h⟩ := h
      subst e1; subst e2; subst e3; subst e4
      exact RWrite_c l x cap cb a h1 h2 h3 h4 K h⟩
  | [.s (.sl 0 0 n cap), .s (.int .i32 a), .s (.raw (.slice b 0 cb))], [.view ys] => some ⟨.ex (List Int) fun l => .ask (ys = bytesI l ∧ n = l.length)
      (.ret (.tup [.s (.sl 0 0 l.length cap), .s (.int .i64 0)]) [.view (bytesI l)]), fun K h => by
      obtain ⟨l, ⟨e1, e2⟩, h⟩ := h
      subst e1; subst e2
      exact RWrite_n l cap cb a b K h⟩
  | _, _ => none)
noncomputable abbrev eRRead : Ent := .st (conS (P := Tryz.prog) (f := f_r03_Read) fun cargs σ0 => match cargs, σ0 with
  | [.s (.sl 0 0 n cap), .s (.int .i32 a), .s (.int .i64 k)], [.view ys] => some ⟨.ex (List Int) fun l => .ask (ys = bytesI l ∧ n = l.length ∧ l.length ≤ 65536 ∧ I32 a ∧ l.length ≤ cap ∧ k ≤ 9223372036854775807)
      (.br (decide (k < 0)) (.ret (.tup [.s (.raw (.slice none 0 0)), .s (.int .i64 2)]) [.view (bytesI l)])
      (.br (k == 0) (.ret (.tup [.s (.raw (.slice none 0 0)), .s (.int .i64 0)]) [.view (bytesI l)])
        (.br (!liesB l.length a k) (.ret (.tup [.s (.raw (.slice none 0 0)), .s (.int .i64 4)]) [.view (bytesI l)])
          (.all Nat (fun c => k.toNat ≤ c) fun c => .ret (.tup [.s (.sl 1 0 k.toNat c), .s (.int .i64 0)]) [.view (bytesI l), .view (bytesI ((l.drop (ofAt a).toNat).take k.toNat))])))), fun K h => by
      obtain ⟨l, ⟨e1, e2, h1, h2, h3, h4⟩, h⟩ := h
      subst e1; subst e2
      exact RRead_c l cap a k h1 h2 h3 h4 K h⟩
  | _, _ => none)
noncomputable abbrev ctRMv : CT := [(f_r03_Read, eRRead), (f_r03_Write, eRWrite)]
theorem ctRMv_ok : CTok Tryz.prog ctRMv := ⟨con_ok cal_r03_Read _, con_ok cal_r03_Write _, trivial⟩
theorem RMove_c (l : List Int) (cap : Nat) (to fr k : Int) (hn : l.length ≤ 65536) (ht : I32 to) (hf : I32 fr) (hk : I32 k) (hc : l.length ≤ cap) : Con Tryz.prog f_r03_Move [.s (.sl 0 0 l.length cap), .s (.int .i32 to), .s (.int .i32 fr), .s (.int .i32 k)] [.view (bytesI l)]
    (.br (k == 0) (.ret (.tup [.s (.sl 0 0 l.length cap), .s (.int .i64 0)]) [.view (bytesI l)])
      (.br (!liesB l.length fr (Uw k)) (.ret (.tup [.s (.sl 0 0 l.length cap), .s (.int .i64 4)]) [.view (bytesI l)])
        (.br (!liesB l.length to (Uw k)) (.ret (.tup [.s (.sl 0 0 l.length cap), .s (.int .i64 4)]) [.view (bytesI l)])
          (.all Nat (fun c => l.length ≤ c) fun c => .ret (.tup [.s (.sl 1 0 l.length c), .s (.int .i64 0)]) [.view (bytesI l), .view (bytesI (setL l (ofAt to).toNat ((l.drop (ofAt fr).toNat).take (Uw k).toNat)))])))) := by
  intro K ⟨hK1, hK⟩
  have eU : IntKind.i64.wrap (IntKind.u32.wrap k) = Uw k := by rw [IntKind.wrap_i64, IntKind.wrap_u32]; unfold Uw; omega
  have hU0 := Uw_lo k
  have hU1 := Uw_hi k
  have e0 : (k == 0) = (IntKind.i64.wrap (IntKind.u32.wrap k) == 0) := by
    rw [eU]
    by_cases h : k = 0
    · subst h; rfl
    · have h' : Uw k ≠ 0 := by unfold I32 at hk; unfold Uw; omega
      rw [beq_eq_false_iff_ne.2 h, beq_eq_false_iff_ne.2 h']
  rw [← eU] at hK
  refine enter fn_r03_Move rfl nt_r03_Move rfl rfl (fun φ w0 β0 F => ?_)
  refine c_run tt_ok ctRMv_ok k_r03_Move [] 60 (by kernel_rfl) ?_
  refine ⟨l, ⟨rfl, rfl, hn, hf, hc, by rw [eU]; omega⟩, fun h => ?_, fun _ => ⟨fun h => ?_, fun hk2 => ⟨fun h => ?_, fun h => ?_⟩⟩⟩
  · exfalso; rw [eU] at h; have := of_decide_eq_true h; omega
  · refine ⟨fun h2 => absurd h2 (by decide), fun _ => ⟨l, ⟨rfl, rfl⟩, ?_⟩⟩
    exact fin_k tt_ok (rs := rs_r03_Move) rfl rfl (hK1 (by rw [e0]; exact h)) [0] rfl rfl rfl rfl rfl rfl
  · have hk2' : (k == 0) = false := by rw [e0]; exact hk2
    refine ⟨fun _ => ?_, fun h2 => absurd h2 (by decide)⟩
    exact fin_k tt_ok (rs := rs_r03_Move) rfl rfl ((hK hk2').1 h) [0] rfl rfl rfl rfl rfl rfl
  · have hk2' : (k == 0) = false := by rw [e0]; exact hk2
    refine fun c1 h1 => ⟨fun h2 => absurd h2 (by decide), fun _ => ?_⟩
    have hb : liesB l.length fr (IntKind.i64.wrap (IntKind.u32.wrap k)) = true := by simpa using h
    have hi := lies_i hf (by rw [eU]; omega) hb
    have hlen : ((l.drop (ofAt fr).toNat).take (IntKind.i64.wrap (IntKind.u32.wrap k)).toNat).length = (IntKind.i64.wrap (IntKind.u32.wrap k)).toNat := by simp; rw [eU] at hi ⊢; omega
    have hlenI : ((((l.drop (ofAt fr).toNat).take (IntKind.i64.wrap (IntKind.u32.wrap k)).toNat).length : Nat) : Int) = IntKind.i64.wrap (IntKind.u32.wrap k) := by rw [hlen, eU]; omega
    refine ⟨(l, (l.drop (ofAt fr).toNat).take (IntKind.i64.wrap (IntKind.u32.wrap k)).toNat), ⟨rfl, rfl, rfl, hlen.symm, hn, ht, hc, by rw [hlen, eU]; omega⟩, fun h5 => ?_, fun _ => ⟨fun h5 => ?_, fun h5 => ?_⟩⟩
    · exfalso; dsimp only at h5; rw [hlenI] at h5; rw [h5] at hk2; cases hk2
    · dsimp only at h5; rw [hlenI] at h5
      exact fin_k tt_ok (rs := rs_r03_Move) rfl rfl (((hK hk2').2 h).1 h5) [0] rfl rfl rfl rfl rfl rfl
    · dsimp only at h5; rw [hlenI] at h5
      refine fun c h6 => ?_
      exact fin_k tt_ok (rs := rs_r03_Move) rfl rfl (((hK hk2').2 h).2 h5 c h6) [0, 2] rfl rfl rfl rfl rfl rfl
end Go.Proofs.R3

namespace Go.Proofs
open Go Go.Sx
set_option maxRecDepth 10000
theorem view_seg (l : List Int) : seg (bytesI l) 0 l.length = bytesI l := by rw [seg_bytesI, List.drop_zero, List.take_length]
theorem RByte_t (m : Ram) (cap : Nat) (a : Int) (ha : I32 a) : Con Tryz.prog f_r03_Byte [.s (.sl 0 0 m.l.length cap), .s (.int .i32 a)] [.view (bytesI m.l)]
    (.ret (.tup [.s (.int .u8 (m.byte a)), .s (.int .i64 (m.errB a))]) [.view (bytesI m.l)]) := by
  intro K hK
  replace hK : K _ _ := hK
  refine RByte_c m.l cap a m.hi ha K ⟨fun h => ?_, fun h => ?_⟩
  · have hb : spanBad m.l.length a 1 = false := by have := lies_span m.l.length a 1 (by decide); rw [h] at this; simpa using this.symm
    show K _ _
    simpa [Ram.byte, Ram.errB, hb] using hK
  · have hb : spanBad m.l.length a 1 = true := by have := lies_span m.l.length a 1 (by decide); rw [h] at this; simpa using this.symm
    show K _ _
    simpa [Ram.byte, Ram.errB, hb] using hK
noncomputable abbrev eRByteT : Ent := .st (conS (P := Tryz.prog) (f := f_r03_Byte) fun cargs σ0 => match cargs, σ0 with
  | [.s (.sl 0 0 n cap), .s (.int .i32 a)], [.view xs] => some ⟨.ex Ram fun m => .ask (n = m.l.length ∧ xs = bytesI m.l ∧ I32 a)
      (.ret (.tup [.s (.int .u8 (m.byte a)), .s (.int .i64 (m.errB a))]) [.view (bytesI m.l)]), fun K h => by
      obtain ⟨m, ⟨e1, e2, h1⟩, h⟩ := h
      subst e1; subst e2
      exact RByte_t m cap a h1 K h⟩
  | _, _ => none)
theorem RSetByte_t (m : Ram) (cap : Nat) (a v : Int) (ha : I32 a) (hv : 0 ≤ v ∧ v < 256) (hc : m.l.length ≤ cap) : Con Tryz.prog f_r03_SetByte [.s (.sl 0 0 m.l.length cap), .s (.int .i32 a), .s (.int .u8 v)] [.view (bytesI m.l)]
    (.all Nat (fun c => m.l.length ≤ c) fun c => .ret (.tup [.s (.sl 1 0 (m.setB a v).l.length c), .s (.int .i64 (m.errB a))]) [.view (bytesI m.l), .view (bytesI (m.setB a v).l)]) := by
  intro K hK
  have hn := m.hi
  have h0 := m.lo
  refine enter fn_r03_SetByte rfl nt_r03_SetByte rfl rfl (fun φ w0 β0 F => ?_)
  refine c_run tt_ok R3.ctPu_ok k_r03_SetByte [] 60 (by kernel_rfl) ?_
  refine ⟨⟨by omega, by omega, ha⟩, fun h => ?_, fun h => ?_⟩
  · have hb : spanBad m.l.length a 1 = true := by have := lies_span m.l.length a 1 (by decide); have h' : liesB m.l.length a 1 = false := by simpa using h
                                                  rw [h'] at this; simpa using this.symm
    refine WpE.into (aliasSlot 6 0 0 m.l.length cap rfl rfl) ?_
    have h1 := hK cap hc
    rw [show m.setB a v = m by simp [Ram.setB, hb]] at h1
    refine fin_k tt_ok (rs := rs_r03_SetByte) rfl rfl h1 [0, 1] ?_ ?_ rfl rfl rfl rfl
    · rw [show m.errB a = 4 by simp [Ram.errB, hb]]; rfl
    · rw [view_seg]; rfl
  · have hl : liesB m.l.length a 1 = true := by simpa using h
    have hb : spanBad m.l.length a 1 = false := by have := lies_span m.l.length a 1 (by decide); rw [hl] at this; simpa using this.symm
    have hi := R3.lies_i ha (by decide) hl
    refine ⟨ha, (m.l, [v], (ofAt a).toNat), ⟨rfl, rfl, rfl, rfl, rfl, (Int.toNat_of_nonneg hi.1).symm, by simp; omega, hn, hc⟩, fun c h1 => ?_⟩
    have h2 := hK c h1
    rw [setB_len] at h2
    rw [show (m.setB a v).l = setL m.l (ofAt a).toNat [v] by
      unfold Ram.setB; rw [hb]; exact put_ok (by simp; omega) (by intro b hb'; rw [List.mem_singleton] at hb'; subst hb'; exact hv)] at h2
    refine fin_k tt_ok (rs := rs_r03_SetByte) rfl rfl h2 [0, 2] ?_ rfl rfl rfl rfl rfl
    rw [show m.errB a = 0 by simp [Ram.errB, hb]]; rfl
noncomputable abbrev eRSetByteT : Ent := .st (conS (P := Tryz.prog) (f := f_r03_SetByte) fun cargs σ0 => match cargs, σ0 with
  | [.s (.sl 0 0 n cap), .s (.int .i32 a), .s (.int .u8 v)], [.view xs] => some ⟨.ex Ram fun m => .ask (n = m.l.length ∧ xs = bytesI m.l ∧ I32 a ∧ (0 ≤ v ∧ v < 256) ∧ m.l.length ≤ cap)
      (.all Nat (fun c => m.l.length ≤ c) fun c => .ret (.tup [.s (.sl 1 0 (m.setB a v).l.length c), .s (.int .i64 (m.errB a))]) [.view (bytesI m.l), .view (bytesI (m.setB a v).l)]), fun K h => by
      obtain ⟨m, ⟨e1, e2, h1, h2, h3⟩, h⟩ := h
      subst e1; subst e2
      exact RSetByte_t m cap a v h1 h2 h3 K h⟩
  | _, _ => none)
set_option maxHeartbeats 1000000 in
theorem RMove_t (m : Ram) (cap : Nat) (to fr k : Int) (ht : I32 to) (hf : I32 fr) (hk : I32 k) (hc : m.l.length ≤ cap) : Con Tryz.prog f_r03_Move [.s (.sl 0 0 m.l.length cap), .s (.int .i32 to), .s (.int .i32 fr), .s (.int .i32 k)] [.view (bytesI m.l)]
    (.all Nat (fun c => m.l.length ≤ c) fun c => .ret (.tup [.s (.sl 1 0 (mvM m to fr k).l.length c), .s (.int .i64 (mvE m to fr k))]) [.view (bytesI m.l), .view (bytesI (mvM m to fr k).l)]) := by
  intro K hK
  have hn := m.hi
  have h0 := m.lo
  have eU : IntKind.i64.wrap (IntKind.u32.wrap k) = Uw k := by rw [IntKind.wrap_i64, IntKind.wrap_u32]; unfold Uw; omega
  have hU0 := Uw_lo k
  have hU1 := Uw_hi k
  have e0 : (k == 0) = (IntKind.i64.wrap (IntKind.u32.wrap k) == 0) := by
    rw [eU]
    by_cases h : k = 0
    · subst h; rfl
    · have h' : Uw k ≠ 0 := by unfold I32 at hk; unfold Uw; omega
      rw [beq_eq_false_iff_ne.2 h, beq_eq_false_iff_ne.2 h']
  have same : ∀ e : Int, mvM m to fr k = m → mvE m to fr k = e → K (.tup [.s (.sl 1 0 m.l.length cap), .s (.int .i64 e)]) [.view (bytesI m.l), .view (bytesI m.l)] := by
    intro e h1 h2
    have := hK cap hc
    rw [h1, h2] at this
    exact this
  refine enter fn_r03_Move rfl nt_r03_Move rfl rfl (fun φ w0 β0 F => ?_)
  refine c_run tt_ok R3.ctRMv_ok k_r03_Move [] 60 (by kernel_rfl) ?_
  refine ⟨m.l, ⟨rfl, rfl, hn, hf, hc, by rw [eU]; omega⟩, fun h => ?_, fun _ => ⟨fun h => ?_, fun hk2 => ⟨fun h => ?_, fun h => ?_⟩⟩⟩
  · exfalso; rw [eU] at h; have := of_decide_eq_true h; omega
  · refine ⟨fun h2 => absurd h2 (by decide), fun _ => ⟨m.l, ⟨rfl, rfl⟩, ?_⟩⟩
    have hk0 : (k == 0) = true := by rw [e0]; exact h
    refine WpE.into (aliasSlot 8 0 0 m.l.length cap rfl rfl) ?_
    refine fin_k tt_ok (rs := rs_r03_Move) rfl rfl (same 0 (by simp [mvM, hk0]) (by simp [mvE, hk0])) [0, 1] rfl ?_ rfl rfl rfl rfl
    rw [view_seg]; rfl
  · have hk2' : (k == 0) = false := by rw [e0]; exact hk2
    refine ⟨fun _ => ?_, fun h2 => absurd h2 (by decide)⟩
    have hb : mvBad m to fr k = true := by
      have hl : liesB m.l.length fr (Uw k) = false := by rw [← eU]; simpa using h
      have := lies_span m.l.length fr (Uw k) hU0; rw [hl] at this
      unfold mvBad; rw [show spanBad m.l.length fr (Uw k) = true by simpa using this.symm]; rfl
    refine WpE.into (aliasSlot 8 0 0 m.l.length cap rfl rfl) ?_
    refine fin_k tt_ok (rs := rs_r03_Move) rfl rfl (same 4 (by simp [mvM, Ram.move, hk2', hb]) (by simp [mvE, hk2', hb])) [0, 1] rfl ?_ rfl rfl rfl rfl
    rw [view_seg]; rfl
  · have hk2' : (k == 0) = false := by rw [e0]; exact hk2
    refine fun c1 h1 => ⟨fun h2 => absurd h2 (by decide), fun _ => ?_⟩
    have hb : liesB m.l.length fr (IntKind.i64.wrap (IntKind.u32.wrap k)) = true := by simpa using h
    have hi := R3.lies_i hf (by rw [eU]; omega) hb
    have hlen : ((m.l.drop (ofAt fr).toNat).take (IntKind.i64.wrap (IntKind.u32.wrap k)).toNat).length = (IntKind.i64.wrap (IntKind.u32.wrap k)).toNat := by simp; rw [eU] at hi ⊢; omega
    have hlenI : ((((m.l.drop (ofAt fr).toNat).take (IntKind.i64.wrap (IntKind.u32.wrap k)).toNat).length : Nat) : Int) = IntKind.i64.wrap (IntKind.u32.wrap k) := by rw [hlen, eU]; omega
    have hs1 : spanBad m.l.length fr (Uw k) = false := by have := lies_span m.l.length fr (Uw k) hU0; rw [← eU, hb] at this; rw [← eU]; simpa using this.symm
    refine ⟨(m.l, (m.l.drop (ofAt fr).toNat).take (IntKind.i64.wrap (IntKind.u32.wrap k)).toNat), ⟨rfl, rfl, rfl, hlen.symm, hn, ht, hc, by rw [hlen, eU]; omega⟩, fun h5 => ?_, fun _ => ⟨fun h5 => ?_, fun h5 => ?_⟩⟩
    · exfalso; dsimp only at h5; rw [hlenI] at h5; rw [h5] at hk2; cases hk2
    · dsimp only at h5; rw [hlenI] at h5
      have hl : liesB m.l.length to (Uw k) = false := by rw [← eU]; simpa using h5
      have hs2 : mvBad m to fr k = true := by have := lies_span m.l.length to (Uw k) hU0; rw [hl] at this; unfold mvBad; rw [hs1, show spanBad m.l.length to (Uw k) = true by simpa using this.symm]; rfl
      refine WpE.into (aliasSlot 8 0 0 m.l.length cap rfl rfl) ?_
      refine fin_k tt_ok (rs := rs_r03_Move) rfl rfl (same 4 (by simp [mvM, Ram.move, hk2', hs2]) (by simp [mvE, hk2', hs2])) [0, 2] rfl ?_ rfl rfl rfl rfl
      rw [view_seg]; rfl
    · dsimp only at h5; rw [hlenI] at h5
      have hl : liesB m.l.length to (Uw k) = true := by rw [← eU]; simpa using h5
      have hs2 : mvBad m to fr k = false := by have := lies_span m.l.length to (Uw k) hU0; rw [hl] at this; unfold mvBad; rw [hs1, show spanBad m.l.length to (Uw k) = false by simpa using this.symm]; rfl
      refine fun c h6 => ?_
      have h7 := hK c h6
      rw [mvM_len] at h7
      rw [show (mvM m to fr k).l = setL m.l (ofAt to).toNat ((m.l.drop (ofAt fr).toNat).take (IntKind.i64.wrap (IntKind.u32.wrap k)).toNat) by
        rw [show mvM m to fr k = m.move to fr k by simp [mvM, hk2'], move_ok ht hf hs2, eU]; rfl] at h7
      refine fin_k tt_ok (rs := rs_r03_Move) rfl rfl h7 [0, 2] ?_ rfl rfl rfl rfl rfl
      rw [show mvE m to fr k = 0 by simp [mvE, hk2', hs2]]; rfl
noncomputable abbrev eRMoveT : Ent := .st (conS (P := Tryz.prog) (f := f_r03_Move) fun cargs σ0 => match cargs, σ0 with
  | [.s (.sl 0 0 n cap), .s (.int .i32 to), .s (.int .i32 fr), .s (.int .i32 k)], [.view xs] => some ⟨.ex Ram fun m => .ask (n = m.l.length ∧ xs = bytesI m.l ∧ I32 to ∧ I32 fr ∧ I32 k ∧ m.l.length ≤ cap)
      (.all Nat (fun c => m.l.length ≤ c) fun c => .ret (.tup [.s (.sl 1 0 (mvM m to fr k).l.length c), .s (.int .i64 (mvE m to fr k))]) [.view (bytesI m.l), .view (bytesI (mvM m to fr k).l)]), fun K h => by
      obtain ⟨m, ⟨e1, e2, h1, h2, h3, h4⟩, h⟩ := h
      subst e1; subst e2
      exact RMove_t m cap to fr k h1 h2 h3 h4 K h⟩
  | _, _ => none)
end Go.Proofs
