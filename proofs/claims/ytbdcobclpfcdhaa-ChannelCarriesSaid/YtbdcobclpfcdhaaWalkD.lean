/- ChannelOrder: one round, and the walk. -/
import Derived.Test.YtbdcobclpfcdhaaWalkC
import Derived.Test.YtbdcobclpfcdhaaSxC
import Derived.Test.YtbdcobclpfcdhaaWalkA

namespace Go.Proofs
open Go Go.Sx
set_option maxRecDepth 10000
def free (M : Ram) : Prop := M.l.length = 1024 ∧ M.word (-2147483548) = NP
theorem order_m1 {M : Ram} {x v : Int} (hM : free M) (hx : I32 x) (hv : I32 v) : free ((M.set (-2147483248) x).set (-2147483048) v) ∧ ((M.set (-2147483248) x).set (-2147483048) v).word (-2147483248) = x ∧ ((M.set (-2147483248) x).set (-2147483048) v).word (-2147483048) = v := by
  obtain ⟨hl, hc⟩ := hM
  have a1 : inA (-2147483248) := inA_d (by decide)
  have a2 : inA (-2147483048) := inA_d (by decide)
  refine ⟨⟨len_set (len_set hl), ?_⟩, ?_, word_at (len_set hl) a2 hv⟩
  · rw [word_off (len_set hl) a2 line_in hv (by decide), word_off hl a1 line_in hx (by decide)]; exact hc
  · rw [word_off (len_set hl) a2 a1 hv (by decide)]; exact word_at hl a1 hx
theorem order_out {M : Ram} {x v : Int} (hM : free M) (h1 : M.word (-2147483248) = x) (h2 : M.word (-2147483048) = v) :
    ∃ M2, outR (runK (-2147483448) 1 0) M 4 (-2147483548) (-2147483248) = (noK, 0, M2) ∧ M2.word (-2147483048) = v ∧ ∃ M3, inR (noK.pass (-2147483348) 1 0) M2 4 (-2147483548) (-2147483048) = (gotK (-2147483448) (-2147483348), 0, M3) ∧ M3.word (-2147483048) = x ∧ free M3 := by
  obtain ⟨hl, hc⟩ := hM
  have a1 : inA (-2147483248) := inA_d (by decide)
  have a2 : inA (-2147483048) := inA_d (by decide)
  have hF : I32 (-2147483448 + pr01 true) := i32B_ok (by decide)
  have h0 : I32 0 := i32B_ok (by decide)
  refine ⟨_, first_out (o := true) hl rfl isWp rfl rfl hc, ?_, _, second_in (o := true) (o2 := true) (fm_len hl _ _ _ _) isWp rfl rfl (fm_line hl isWp hF (inA_i32 a1) h0) (fm_at hl isWp (inA_i32 a1) h0) rfl (.inr ⟨by decide, by decide, by unfold rng; decide, by unfold rng; decide⟩), ?_, sm_len (fm_len hl _ _ _ _) _ _ _, sm_line (fm_len hl _ _ _ _) _ _ _⟩
  · exact (fm_off hl isWp hF (inA_i32 a1) h0 a2 (by decide) (by decide) (by decide)).trans h2
  · rw [sm_4 (fm_len hl _ _ _ _) a2 a1 (by decide)]
    exact (fm_off hl isWp hF (inA_i32 a1) h0 a1 (by decide) (by decide) (by decide)).trans h1
theorem order_in {M : Ram} {x v : Int} (hM : free M) (h1 : M.word (-2147483248) = x) (h2 : M.word (-2147483048) = v) :
    ∃ M2, inR (runK (-2147483348) 1 0) M 4 (-2147483548) (-2147483048) = (noK, 0, M2) ∧ M2.word (-2147483048) = v ∧ ∃ M3, outR (noK.pass (-2147483448) 1 0) M2 4 (-2147483548) (-2147483248) = (gotK (-2147483348) (-2147483448), 0, M3) ∧ M3.word (-2147483048) = x ∧ free M3 := by
  obtain ⟨hl, hc⟩ := hM
  have a1 : inA (-2147483248) := inA_d (by decide)
  have a2 : inA (-2147483048) := inA_d (by decide)
  have hF : I32 (-2147483348 + pr01 true) := i32B_ok (by decide)
  have h0 : I32 0 := i32B_ok (by decide)
  refine ⟨_, first_in (o := true) hl rfl isWq rfl rfl hc, ?_, _, second_out (o := true) (o2 := true) (fm_len hl _ _ _ _) isWq rfl rfl (fm_line hl isWq hF (inA_i32 a2) h0) (fm_at hl isWq (inA_i32 a2) h0) rfl (by decide) (.inr ⟨by decide, by decide, by unfold rng; decide, by unfold rng; decide⟩), ?_, sm_len (fm_len hl _ _ _ _) _ _ _, sm_line (fm_len hl _ _ _ _) _ _ _⟩
  · exact (fm_off hl isWq hF (inA_i32 a2) h0 a2 (by decide) (by decide) (by decide)).trans h2
  · rw [sm_4 (fm_len hl _ _ _ _) a2 a1 (by decide)]
    exact (fm_off hl isWq hF (inA_i32 a2) h0 a1 (by decide) (by decide) (by decide)).trans h1
def ordK (a b c w : Int) : Core := ⟨a, b, c, 0, w, 1, true, false, false, false, -2147483648, -2147483648, -2147483648, -2147483648, -2147483648, -2147483648, 0, 0, 0, 0, false, 0, 0, 0, 0, 0, false, 0⟩
end Go.Proofs

namespace Go.Proofs
open Go Go.Sx
set_option maxRecDepth 10000
set_option maxHeartbeats 1000000
noncomputable abbrev ctOr : CT := [(f_l30_fresh, eFresh), (f_mem_Mem_SetWord, eSetWordT), (f_l30_runs, .pure spRuns), (f_l30_passes, .pure spPasses), (f_channel_Out, eOut), (f_channel_In, eIn), (f_l30_word, eLword), (f_l30_awake, .pure spAwake)]
theorem ctOr_ok : CTok Try.prog ctOr := ⟨con_ok cal_l30_fresh _, con_ok cal_mem_Mem_SetWord _, ceRuns, cePasses, con_ok cal_channel_Out _, con_ok cal_channel_In _, con_ok cal_l30_word _, ceAwake, trivial⟩
theorem notI_I32 (x : Int) : I32 (notI IntKind.i32 x) := by
  have e : notI IntKind.i32 x = IntKind.i32.wrap ((BitVec.ofInt 32 (-1) ^^^ BitVec.ofInt 32 x).toNat : Int) := rfl
  rw [e]; exact I32_wrap _
abbrev bsV (f : List Bool) : List Value := (f.map boolRow).flatten
abbrev wsV (l : List Int) : List Value := l.map (Value.int .i32)
theorem ChannelOrder_c (L : List Int) (f : List Bool) (cap capf : Nat) (hL : ∀ x ∈ L, I32 x) (hc : L.length ≤ cap) (hm : cap ≤ maxLen) :
    Con Try.prog f_l30_ChannelOrder [.s (.sl 0 0 L.length cap), .s (.sl 1 0 f.length capf)] [.view (wsV L), .view (bsV f)] (.ret (.t (.s (.bool true))) [.view (wsV L), .view (bsV f)]) := by
  intro K hK
  have hm' : cap ≤ 9223372036854775807 := hm
  obtain ⟨n, hn⟩ : ∃ n, n = min L.length 60 := ⟨_, rfl⟩
  refine enter fn_l30_ChannelOrder rfl nt_l30_ChannelOrder rfl rfl (fun φ w0 β0 F => ?_)
  refine c_run tt_ok ctOr_ok k_l30_ChannelOrder [] 60 (by kernel_rfl) ?_
  refine ⟨0, n, ⟨_, _, rfl, rfl, rfl, ?_⟩, ⟨by omega, by omega⟩, ?_⟩
  · show (if (60 : Int) < (L.length : Int) then (60 : Int) else (L.length : Int)) = _
    split <;> omega
  obtain ⟨l, hl⟩ : ∃ l, l = L.take n := ⟨_, rfl⟩
  have hln : l.length = n := by rw [hl, List.length_take]; omega
  have hlw : ∀ x ∈ l, I32 x := fun x hx => hL x (by rw [hl] at hx; exact List.mem_of_mem_take hx)
  have hlv : seg (wsV L) (0 + 0 * 1) ((n - 0) * 1) = wsV l := by unfold seg wsV; rw [hl]; simp
  refine ⟨trivial, ?_⟩
  show WpC _ _ _ _ _
  refine c_loop (α := Nat × Ram × Int × Int × Int × Int) (fun x => x.1 ≤ n ∧ free x.2.1) (fun x => n - x.1)
    (fun x => [(1, .t (.s (.sl 1 0 f.length capf)), none), (5, .t (.s (.loc 3 0)), none), (6, .t (.s (.loc 5 0)), none), (25, .t (.s (.sl 2 0 n cap)), none), (26, .t (.s (.int .i64 (n : Int))), none), (27, .t (.s (.int .i64 (x.1 : Int))), none)])
    (fun x => [.view (wsV L), .view (bsV f), .view (wsV l), .blk 94 [.sl 4 0 x.2.1.l.length x.2.1.l.length], mOwn x.2.1.l, .blk 30 (ordK x.2.2.1 x.2.2.2.1 x.2.2.2.2.1 x.2.2.2.2.2).sv]) (0, m0, 11, 12, 13, -2147483448) ⟨Nat.zero_le _, m0_len, m0_line⟩ ?_ ?_
  · exact into [0, 1, 2, 3, 4, 5] ⟨⟨_, rfl, rfl⟩, ⟨_, rfl, rfl⟩, ⟨_, rfl, rfl⟩, ⟨_, rfl, rfl⟩, ⟨_, rfl, rfl⟩, ⟨_, rfl, rfl⟩, trivial⟩ ⟨_, rfl, by rw [hlv]; rfl⟩ rfl rfl rfl rfl
  · rintro ⟨i, M, a, b, c, w⟩ ⟨hi, hM⟩
    simp only at hi hM
    dsimp only
    refine c_run' tt_ok ctOr_ok k_l30_ChannelOrder [] 60 (by kernel_rfl) (by kernel_rfl) ?_
    refine ⟨fun h => ?_, fun h => ?_⟩
    · have hin : i < n := by simpa using h
      obtain ⟨x, hx⟩ : ∃ x, l[i]? = some x := ⟨_, List.getElem?_eq_getElem (by omega)⟩
      have hxI : I32 x := hlw x (List.mem_of_getElem? hx)
      have hI : ∀ n, i32B n = true → I32 n := fun n h => i32B_ok h
      obtain ⟨q1, q2, q3⟩ := order_m1 (v := notI IntKind.i32 x) hM hxI (notI_I32 x)
      refine ⟨i, ⟨rfl, hin, by simp [wsV]; omega⟩, .int .i32 x, rfl, by simp [wsV, hx, SV.cv, SV.den, whenP], ?_⟩
      refine ⟨M, ⟨rfl, rfl, rfl, rfl, hI _ (by decide)⟩, M.set (-2147483248) x, ⟨rfl, rfl, rfl, rfl, hI _ (by decide)⟩, ?_⟩
      obtain ⟨bb, hbb⟩ : ∃ bb, ∀ h : i < f.length, f[i] = bb := by
        by_cases h : i < f.length
        · exact ⟨f[i], fun _ => rfl⟩
        · exact ⟨false, fun h' => absurd h' h⟩
      have hbl : (bsV f).length = f.length := by unfold bsV; rw [boolRow_flat]; simp
      generalize hM1 : (M.set (-2147483248) x).set (-2147483048) (notI IntKind.i32 x) = M1 at q1 q2 q3
      refine ⟨i, fun h => ?_, .bool bb, rfl, fun h => ?_, ?_⟩
      · have h' : i < f.length := by simpa using h
        exact ⟨rfl, h', by rw [hbl]; show 0 + (i + 1) * 1 ≤ _; omega⟩
      · have h' : i < f.length := by simpa using h
        unfold bsV
        rw [boolRow_flat]
        simp [hbb h', SV.cv, SV.den, h']
      have hvx : (0 : Int) = 0 := rfl
      refine ⟨fun h => ?_, fun h => ?_⟩
      · obtain ⟨M2, e1, r1, M3, e2, r2, hF⟩ := order_in q1 q2 q3
        refine ⟨trivial, (M1, noK, 0, M2), ⟨rfl, rfl, rfl, rfl, ⟨runK_ok (hI _ (by decide)) (.inr rfl) (hI _ (by decide)), hI _ (by decide), hI _ (by decide), hI _ (by decide)⟩, by dsimp only; exact e1⟩, ?_⟩
        refine ⟨fun _ => ⟨M2, ⟨rfl, rfl, rfl, rfl, hI _ (by decide)⟩, ?_⟩, fun h => absurd h (by simp)⟩
        refine ⟨fun h => absurd h (by simp [r1]), fun _ => ?_⟩
        refine ⟨trivial, (M2, gotK (-2147483348) (-2147483448), 0, M3), ⟨rfl, rfl, rfl, rfl, ⟨pass_ok noK_ok (hI _ (by decide)) (.inr rfl) (hI _ (by decide)), hI _ (by decide), hI _ (by decide), hI _ (by decide)⟩, by dsimp only; exact e2⟩, ?_⟩
        refine ⟨fun _ => ⟨M3, ⟨rfl, rfl, rfl, rfl, hI _ (by decide)⟩, ?_⟩, fun h => absurd h (by simp)⟩
        refine ⟨fun h => absurd h (by simp [r2]), fun _ => ?_⟩
        exact e_again (i + 1, M3, 0, 0, 0, -2147483448) ⟨by show i + 1 ≤ n; omega, hF⟩ (by show n - (i + 1) < n - i; omega) (into [0, 1, 2, 3, 4, 5] ⟨⟨_, rfl, rfl⟩, ⟨_, rfl, rfl⟩, ⟨_, rfl, rfl⟩, ⟨_, rfl, rfl⟩, ⟨_, rfl, rfl⟩, ⟨_, rfl, fvi (wrapSucc (by omega))⟩, trivial⟩ ⟨_, rfl, rfl⟩ rfl rfl rfl rfl)
      · obtain ⟨M2, e1, r1, M3, e2, r2, hF⟩ := order_out q1 q2 q3
        refine ⟨trivial, (M1, noK, 0, M2), ⟨rfl, rfl, rfl, rfl, ⟨runK_ok (hI _ (by decide)) (.inr rfl) (hI _ (by decide)), hI _ (by decide), hI _ (by decide), hI _ (by decide)⟩, by dsimp only; exact e1⟩, ?_⟩
        refine ⟨fun _ => ⟨M2, ⟨rfl, rfl, rfl, rfl, hI _ (by decide)⟩, ?_⟩, fun h => absurd h (by simp)⟩
        refine ⟨fun h => absurd h (by simp [r1]), fun _ => ?_⟩
        refine ⟨trivial, (M2, gotK (-2147483448) (-2147483348), 0, M3), ⟨rfl, rfl, rfl, rfl, ⟨pass_ok noK_ok (hI _ (by decide)) (.inr rfl) (hI _ (by decide)), hI _ (by decide), hI _ (by decide), hI _ (by decide)⟩, by dsimp only; exact e2⟩, ?_⟩
        refine ⟨fun _ => ⟨M3, ⟨rfl, rfl, rfl, rfl, hI _ (by decide)⟩, ?_⟩, fun h => absurd h (by simp)⟩
        refine ⟨fun h => absurd h (by simp [r2]), fun _ => ?_⟩
        exact e_again (i + 1, M3, 0, 0, 0, -2147483348) ⟨by show i + 1 ≤ n; omega, hF⟩ (by show n - (i + 1) < n - i; omega) (into [0, 1, 2, 3, 4, 5] ⟨⟨_, rfl, rfl⟩, ⟨_, rfl, rfl⟩, ⟨_, rfl, rfl⟩, ⟨_, rfl, rfl⟩, ⟨_, rfl, rfl⟩, ⟨_, rfl, fvi (wrapSucc (by omega))⟩, trivial⟩ ⟨_, rfl, rfl⟩ rfl rfl rfl rfl)
    · refine ⟨trivial, ?_⟩
      exact fin_k tt_ok (rs := rs_l30_ChannelOrder) rfl rfl hK [0, 1] rfl rfl rfl rfl rfl rfl
end Go.Proofs

namespace Go.Proofs
open Go Go.Sx
set_option maxRecDepth 10000
theorem Write_v (l b : List Int) (cb : Nat) (at_ : Int) (hn : l.length ≤ 65536) (ha : I32 at_) (h0 : 1 ≤ l.length) (hb : b.length ≤ 4294967296) : Con Try.prog f_mem_Mem_Write [.s (.loc 0 0), .s (.int .i32 at_), .s (.sl 1 0 b.length cb)] [.blk 94 [.sl 2 0 l.length l.length], .view (bytesI b), mOwn l]
    (.br ((b.length : Int) == 0) (.ret (.t (.s (.int .i64 0))) [.blk 94 [.sl 2 0 l.length l.length], .view (bytesI b), mOwn l])
      (.br (spanBad l.length at_ b.length) (.ret (.t (.s (.int .i64 4))) [.blk 94 [.sl 2 0 l.length l.length], .view (bytesI b), mOwn l])
        (.ret (.t (.s (.int .i64 0))) [.blk 94 [.sl 2 0 l.length l.length], .view (bytesI b), .own 5 1 l.length (bytesI (setL l (ofAt at_).toNat b))]))) := by
  intro K ⟨hK1, hK⟩
  refine enter fn_mem_Mem_Write rfl nt_mem_Mem_Write rfl rfl (fun φ w0 β0 F => ?_)
  refine c_run tt_ok ctR_ok k_mem_Mem_Write [] 60 (by kernel_rfl) ?_
  refine ⟨fun h => ?_, fun _ => ⟨fun h => ?_, fun hk2 => ⟨⟨rfl, rfl, hn, ha, ?_, by omega, h0⟩, fun h => ?_, fun h => ?_⟩⟩⟩
  · simp at h; subst h; simp at h0
  · exact fin_k tt_ok (rs := rs_mem_Mem_Write) rfl rfl (hK1 h) [0, 1, 2] rfl rfl rfl rfl rfl rfl
  · simp at hk2; have : b.length ≠ 0 := fun e => hk2 (List.eq_nil_of_length_eq_zero e); omega
  · exact fin_k tt_ok (rs := rs_mem_Mem_Write) rfl rfl ((hK hk2).1 h) [0, 1, 2] rfl rfl rfl rfl rfl rfl
  · have hi := spanBad_i ha h
    refine ⟨b.length, ⟨by simp, by simp; omega, by simp, by rw [seg_bytesI]; exact bytesI_one _⟩, ?_⟩
    refine fin_k tt_ok (rs := rs_mem_Mem_Write) rfl rfl ((hK hk2).2 h) [0, 1, 2] rfl ?_ rfl rfl rfl rfl
    show pickL [Ch.blk 94 [.sl 2 0 l.length l.length], Ch.view (bytesI b), Ch.own 5 1 l.length (setV (bytesI l) (ofAt at_).toNat (seg (bytesI b) 0 b.length))] [0, 1, 2] = _
    rw [seg_bytesI, List.drop_zero, List.take_of_length_le (Nat.le_refl _), setV_bytesI]; rfl
theorem setL_nil (l : List Int) (i : Nat) : setL l i [] = l := by simp [setL]
noncomputable abbrev eWriteC : Ent := .st (conS (P := Try.prog) (f := f_mem_Mem_Write) fun cargs σ0 => match cargs, σ0 with
  | [.s (.loc 0 0), .s (.int .i32 a), .s (.sl 1 0 k cb)], [.blk 94 [.sl 2 0 n n'], .view ys, .own 5 1 c xs] => some ⟨.ex (Ram × List Int × Ram) fun p => .ask (n = p.1.l.length ∧ n' = p.1.l.length ∧ c = p.1.l.length ∧ xs = bytesI p.1.l ∧ ys = bytesI p.2.1 ∧ k = p.2.1.length ∧ I32 a ∧ p.2.1.length ≤ 1024 ∧ (p.2.1 ≠ [] → spanBad p.1.l.length a p.2.1.length = false) ∧ p.2.2.l = setL p.1.l (ofAt a).toNat p.2.1)
      (.ret (.t (.s (.int .i64 0))) [.blk 94 [.sl 2 0 p.2.2.l.length p.2.2.l.length], .view (bytesI p.2.1), mOwn p.2.2.l]), fun K h => by
      obtain ⟨⟨m, b, m'⟩, ⟨e1, e2, e3, e4, e5, e6, h1, h2, h3, h4⟩, h⟩ := h
      dsimp only at e1 e2 e3 e4 e5 e6 h1 h2 h3 h4 h
      subst e1; subst e2; subst e3; subst e4; subst e5; subst e6
      have h0 := m.lo
      refine Write_v m.l b cb a m.hi h1 (by omega) (by omega) K ⟨fun hz => ?_, fun hz => ⟨fun hs => ?_, fun hs => ?_⟩⟩
      · have hb : b = [] := by simp at hz; exact hz
        subst hb
        rw [setL_nil] at h4
        rw [h4] at h; exact h
      · have hb : b ≠ [] := by intro e; subst e; simp at hz
        rw [h3 hb] at hs; exact absurd hs (by decide)
      · have hb : b ≠ [] := by intro e; subst e; simp at hz
        have hi := spanBad_i h1 (h3 hb)
        have hl : (setL m.l (ofAt a).toNat b).length = m.l.length := setL_length (by omega)
        rw [h4, mOwn, hl] at h; exact h⟩
  | _, _ => none)
theorem Read_v (l : List Int) (at_ k : Int) (hn : l.length ≤ 65536) (ha : I32 at_) (h0 : 1 ≤ l.length) (hk0 : 0 ≤ k) (hk : k ≤ 4294967296) (hs : k ≠ 0 → spanBad l.length at_ k = false) : Con Try.prog f_mem_Mem_Read [.s (.loc 0 0), .s (.int .i32 at_), .s (.int .i64 k)] [mBox l.length, mOwn l]
    (.ret (.tup [.s (.sl 2 0 k.toNat k.toNat), .s (.int .i64 0)]) [mBox l.length, mOwn l, .own 5 1 k.toNat (bytesI ((l.drop (ofAt at_).toNat).take k.toNat))]) := by
  intro K hK
  refine enter fn_mem_Mem_Read rfl nt_mem_Mem_Read rfl rfl (fun φ w0 β0 F => ?_)
  refine c_run tt_ok ctR_ok k_mem_Mem_Read [] 60 (by kernel_rfl) ?_
  refine ⟨fun h => ?_, fun _ => ⟨fun h => ?_, fun hk1 => ⟨fun h => ?_, fun hk2 => ⟨⟨rfl, rfl, hn, ha, ?_, hk, h0⟩, fun h => ⟨fun h2 => ?_, fun h2 => ?_⟩, fun h => ⟨fun h2 => ?_, fun h2 => ?_⟩⟩⟩⟩⟩
  · simp at h; subst h; simp at h0
  · simp at h; omega
  · have hz : k = 0 := by simpa using h
    subst hz
    refine WpE.into (nilSlot 6 5 1 rfl) ?_
    refine fin_k tt_ok (rs := rs_mem_Mem_Read) rfl rfl hK [0, 1, 2] rfl ?_ rfl rfl rfl rfl
    simp [pickL, List.take, bytesI, Ch.rn]; rfl
  · simp at hk1 hk2; omega
  · simp at hk2
    exact absurd (h.symm.trans (hs hk2)) (by decide)
  · exact absurd h2 (by decide)
  · exact absurd h2 (by decide)
  · simp at hk1 hk2
    have hi := spanBad_i ha h
    refine ⟨k.toNat, ⟨by omega, by omega, by simp only [maxLen]; omega, by omega⟩, ?_⟩
    refine ⟨k.toNat, ⟨by simp, by simp, by simp; omega, by rw [seg_bytesI]; exact bytesI_one _⟩, ?_⟩
    refine fin_k tt_ok (rs := rs_mem_Mem_Read) rfl rfl hK [0, 1, 2] rfl ?_ rfl rfl rfl rfl
    have hq : ((l.drop (ofAt at_).toNat).take k.toNat).length = k.toNat := by simp; omega
    show pickL [mBox l.length, mOwn l, Ch.own 5 1 k.toNat (setV (List.replicate k.toNat (Value.int .u8 0)) 0 (seg (bytesI l) (ofAt at_).toNat k.toNat))] [0, 1, 2] = some (List.map (Ch.rn fun k => [0, 1, 2].getD k 0)
        [mBox l.length, mOwn l, Ch.own 5 1 k.toNat (bytesI ((l.drop (ofAt at_).toNat).take k.toNat))])
    rw [seg_bytesI, copy_full _ _ (by rw [hq]; simp)]; rfl
noncomputable abbrev eReadC : Ent := .st (conS (P := Try.prog) (f := f_mem_Mem_Read) fun cargs σ0 => match cargs, σ0 with
  | [.s (.loc 0 0), .s (.int .i32 a), .s (.int .i64 k)], [.blk 94 [.sl 1 0 n n'], .own 5 1 c xs] => some ⟨.ex (Ram × List Int) fun p => .ask (n = p.1.l.length ∧ n' = p.1.l.length ∧ c = p.1.l.length ∧ xs = bytesI p.1.l ∧ I32 a ∧ k = (p.2.length : Int) ∧ p.2.length ≤ 1024 ∧ (p.2 ≠ [] → spanBad p.1.l.length a p.2.length = false) ∧ (p.1.l.drop (ofAt a).toNat).take p.2.length = p.2)
      (.ret (.tup [.s (.sl 2 0 p.2.length p.2.length), .s (.int .i64 0)]) [mBox p.1.l.length, mOwn p.1.l, .own 5 1 p.2.length (bytesI p.2)]), fun K h => by
      obtain ⟨⟨m, b⟩, ⟨e1, e2, e3, e4, h1, e6, h2, h3, h4⟩, h⟩ := h
      dsimp only at e1 e2 e3 e4 e6 h1 h2 h3 h4 h
      subst e1; subst e2; subst e3; subst e4; subst e6
      have h0 := m.lo
      refine Read_v m.l a b.length m.hi h1 (by omega) (by omega) (by omega) (fun hz => h3 (by intro e; subst e; simp at hz)) K ?_
      rw [Int.toNat_natCast, h4]
      exact h⟩
  | _, _ => none)
end Go.Proofs

namespace Go.Proofs
open Go Go.Sx
set_option maxRecDepth 10000
theorem set_get {m : Ram} {a v : Int} (hl : m.l.length = 1024) (ha : inA a) (j : Nat) :
    (m.set a v).l.getD j 0 = if a + 2147483648 ≤ j ∧ (j : Int) < a + 2147483648 + 4 then byK v (j - (a + 2147483648).toNat) else m.l.getD j 0 := by
  have h1 := inA_bad hl ha
  have hA := wBad_nat h1
  rw [set_ok h1]
  unfold inA at ha
  have e : wAt a = a := by unfold wAt; omega
  rw [e] at hA ⊢
  unfold setW
  unfold ofAt at *
  rw [stW_get hA 4 (by decide)]
  by_cases h : a + 2147483648 ≤ j ∧ (j : Int) < a + 2147483648 + 4
  · rw [if_pos h, if_pos (by omega)]
  · rw [if_neg h, if_neg (by omega)]
theorem line_byte {m : Ram} (hl : m.l.length = 1024) (hc : m.word (-2147483548) = NP) (k : Nat) (hk : k < 4) : m.l.getD (100 + k) 0 = byK NP k := by
  rw [word_get hl line_in] at hc
  have b0 := byK_word (m := m) (i := 100) k hk
  rw [show getW m.l 100 = NP from hc] at b0
  exact b0.symm
/-- The message in memory. -/
structure Msg (m : Ram) (l : List Int) : Prop where
  len : m.l.length = 1024
  line : m.word (-2147483548) = NP
  at_ : ∀ j, j < l.length → m.l.getD (400 + j) 0 = l.getD j 0
theorem msg_write {l : List Int} (hl : l.length ≤ 150) (hb : ∀ b ∈ l, 0 ≤ b ∧ b < 256) : (m0.put 400 l).l = setL m0.l 400 l ∧ Msg (m0.put 400 l) l := by
  have h0 := m0_len
  have e : (m0.put 400 l).l = setL m0.l 400 l := put_ok (by omega) hb
  have hlen : (m0.put 400 l).l.length = 1024 := by rw [put_len]; exact h0
  refine ⟨e, hlen, ?_, fun j hj => ?_⟩
  · rw [word_get hlen line_in]
    have hw := m0_line
    rw [show line = -2147483548 from rfl, word_get h0 line_in] at hw
    rw [← hw]
    unfold getW
    rw [e, setL_at (by omega), setL_at (by omega), setL_at (by omega), setL_at (by omega)]
    rw [if_neg (by omega), if_neg (by omega), if_neg (by omega), if_neg (by omega)]
  · rw [e, setL_at (by omega), if_pos (by omega)]
    congr 1; omega
theorem fm_get {m : Ram} {w d at_ i : Int} (hl : m.l.length = 1024) (hw : isW w) (j : Nat) (h1 : ¬ (100 ≤ j ∧ j < 104)) (h2 : ¬ (w - 12 + 2147483648 ≤ j ∧ (j : Int) < w + 2147483648)) : (fm m w d at_ i).l.getD j 0 = m.l.getD j 0 := by
  obtain ⟨a1, a2, _, _, _⟩ := isW_in hw
  unfold fm
  rw [set_get (len_set (len_set hl)) a2, if_neg (by omega), set_get (len_set hl) a1, if_neg (by omega), set_get hl line_in, if_neg (by omega)]
theorem sm_get {m : Ram} {n : Int} (hl : m.l.length = 1024) (h0 : 0 ≤ n) (h1 : n ≤ 150) (j : Nat) (hj : ¬ (100 ≤ j ∧ j < 104)) : (sm m (-2147483048) (-2147483248) n).l.getD j 0 = if 600 ≤ j ∧ (j : Int) < 600 + n then m.l.getD (400 + (j - 600)) 0 else m.l.getD j 0 := by
  unfold sm
  by_cases hn : n > 0
  · rw [decide_eq_true hn, cond_true, set_get (len_move hl) line_in, if_neg (by omega), move_get hl (by omega) (by omega) (by omega) (by omega)]
    unfold ofAt
    by_cases h : 600 ≤ j ∧ (j : Int) < 600 + n
    · rw [if_pos h, if_pos (by omega)]
      congr 1; omega
    · rw [if_neg h, if_neg (by omega)]
  · rw [show decide (n > 0) = false by simp; omega, cond_false, set_get hl line_in, if_neg (by omega), if_neg (by omega)]
theorem carries {m : Ram} {l : List Int} {w d at_ i n : Int} (hm : Msg m l) (hn : n = l.length) (hl : l.length ≤ 150) (hw : isW w) :
    (((sm (fm m w d at_ i) (-2147483048) (-2147483248) n).l.drop 600).take l.length = l) ∧
    ∀ j : Nat, j < 1024 → ¬ (600 ≤ j ∧ (j : Int) < 600 + n) → ¬ (w - 12 + 2147483648 ≤ j ∧ (j : Int) < w + 2147483648) → (sm (fm m w d at_ i) (-2147483048) (-2147483248) n).l.getD j 0 = m.l.getD j 0 := by
  have hf := fm_len hm.len w d at_ i
  have hs := sm_len hf (-2147483048) (-2147483248) n
  have hwr : w + 2147483648 ≤ 300 ∧ 188 ≤ w - 12 + 2147483648 := by rcases hw with rfl | rfl <;> decide
  refine ⟨?_, fun j hj h1 h2 => ?_⟩
  · apply getD_ext
    · rw [List.length_take, List.length_drop, hs]; omega
    · intro j
      by_cases hj : j < l.length
      · have e : ((List.drop 600 (sm (fm m w d at_ i) (-2147483048) (-2147483248) n).l).take l.length).getD j 0 = (sm (fm m w d at_ i) (-2147483048) (-2147483248) n).l.getD (600 + j) 0 := by
          simp only [List.getD_eq_getElem?_getD]
          rw [List.getElem?_take, if_pos hj, List.getElem?_drop]
        rw [e, sm_get hf (by omega) (by omega) _ (by omega), if_pos (by omega), show 400 + (600 + j - 600) = 400 + j by omega, fm_get hm.len hw _ (by omega) (by omega)]
        exact hm.at_ j hj
      · simp only [List.getD_eq_getElem?_getD]
        rw [List.getElem?_eq_none (by rw [List.length_take]; omega), List.getElem?_eq_none (by omega)]
  · by_cases hj2 : 100 ≤ j ∧ j < 104
    · have e1 := line_byte hs (sm_line hf _ _ _) (j - 100) (by omega)
      have e2 := line_byte hm.len hm.line (j - 100) (by omega)
      rw [show 100 + (j - 100) = j by omega] at e1 e2
      rw [e1, e2]
    · rw [sm_get hf (by omega) (by omega) j hj2, if_neg h1, fm_get hm.len hw j hj2 h2]
/-- What the law asks of both, in whichever order they come. -/
structure Carried (m : Ram) (l : List Int) (w : Int) (M1 M2 : Ram) (d : Int) : Prop where
  line1 : M1.word (-2147483548) = d
  len : M2.l.length = 1024
  line : M2.word (-2147483548) = NP
  ip : M2.word (w + -4) = 5
  got : (M2.l.drop 600).take l.length = l
  same : ∀ j : Nat, j < 1024 → ¬ (600 ≤ j ∧ (j : Int) < 600 + l.length) → ¬ (w - 12 + 2147483648 ≤ j ∧ (j : Int) < w + 2147483648) → M2.l.getD j 0 = m.l.getD j 0
theorem mv_rng {l : List Int} (hl : l.length ≤ 150) : (l.length : Int) = 0 ∨ 0 < (l.length : Int) ∧ (l.length : Int) ≤ 1024 ∧ rng (-2147483048) l.length ∧ rng (-2147483248) l.length := by
  unfold rng; omega
theorem carried_mk {m : Ram} {l : List Int} {w at_ : Int} {o : Bool} (hm : Msg m l) (hl : l.length ≤ 150) (hw : isW w) (ha : I32 at_) :
    Carried m l w (fm m w (w + pr01 o) at_ 5) (sm (fm m w (w + pr01 o) at_ 5) (-2147483048) (-2147483248) l.length) (w + pr01 o) := by
  have hd : I32 (w + pr01 o) := by rcases hw with rfl | rfl <;> cases o <;> exact i32B_ok (by decide)
  have h5 : I32 5 := i32B_ok (by decide)
  have hf := fm_len hm.len w (w + pr01 o) at_ 5
  obtain ⟨a1, a2, _, _, h4⟩ := isW_in hw
  obtain ⟨c1, c2⟩ := carries (d := w + pr01 o) (at_ := at_) (i := 5) hm rfl hl hw
  refine ⟨fm_line hm.len hw hd ha h5, sm_len hf _ _ _, sm_line hf _ _ _, ?_, c1, c2⟩
  rw [sm_off hf a2 h4 ?_]
  · exact fm_ip hm.len hw h5
  · rcases mv_rng hl with h | ⟨h1, h2, h3, h4⟩
    · exact .inl h
    · exact .inr ⟨h1, h2, h3, h4, by rcases hw with rfl | rfl <;> (left; decide)⟩
theorem carry_out {m : Ram} {l : List Int} (o o2 : Bool) (hm : Msg m l) (hl : l.length ≤ 150) :
    ∃ M1 M2, outR (runK (-2147483448) (pr01 o) 5) m l.length (-2147483548) (-2147483248) = (noK, 0, M1) ∧
      inR (noK.pass (-2147483348) (pr01 o2) 6) M1 l.length (-2147483548) (-2147483048) = (putQ (noK.pass (-2147483348) (pr01 o2) 6) o (-2147483448), 0, M2) ∧ Carried m l (-2147483448) M1 M2 (-2147483448 + pr01 o) := by
  have a1 : I32 (-2147483248) := i32B_ok (by decide)
  have hd : I32 (-2147483448 + pr01 o) := by cases o <;> exact i32B_ok (by decide)
  have h5 : I32 5 := i32B_ok (by decide)
  refine ⟨_, _, first_out (o := o) hm.len rfl isWp rfl rfl hm.line, second_in (o := o) (o2 := o2) (fm_len hm.len _ _ _ _) isWp rfl rfl (fm_line hm.len isWp hd a1 h5) (fm_at hm.len isWp a1 h5) (by cases o <;> rfl) (mv_rng hl), carried_mk hm hl isWp a1⟩
theorem carry_in {m : Ram} {l : List Int} (o o2 : Bool) (hm : Msg m l) (hl : l.length ≤ 150) :
    ∃ M1 M2, inR (runK (-2147483348) (pr01 o) 5) m l.length (-2147483548) (-2147483048) = (noK, 0, M1) ∧
      outR (noK.pass (-2147483448) (pr01 o2) 6) M1 l.length (-2147483548) (-2147483248) = (putQ (noK.pass (-2147483448) (pr01 o2) 6) o (-2147483348), 0, M2) ∧ Carried m l (-2147483348) M1 M2 (-2147483348 + pr01 o) := by
  have a1 : I32 (-2147483048) := i32B_ok (by decide)
  have hd : I32 (-2147483348 + pr01 o) := by cases o <;> exact i32B_ok (by decide)
  have h5 : I32 5 := i32B_ok (by decide)
  refine ⟨_, _, first_in (o := o) hm.len rfl isWq rfl rfl hm.line, second_out (o := o) (o2 := o2) (fm_len hm.len _ _ _ _) isWq rfl rfl (fm_line hm.len isWq hd a1 h5) (fm_at hm.len isWq a1 h5) (by cases o <;> rfl) (by decide) (mv_rng hl), carried_mk hm hl isWq a1⟩
end Go.Proofs

namespace Go.Proofs
open Go Go.Sx
set_option maxRecDepth 10000
noncomputable abbrev ctAct : CT := [(f_channel_Out, eOut), (f_channel_In, eIn)]
theorem ctAct_ok : CTok Try.prog ctAct := ⟨con_ok cal_channel_Out _, con_ok cal_channel_In _, trivial⟩
noncomputable abbrev ctCa : CT := [(f_l30_fresh, eFresh), (f_mem_Mem_Write, eWriteC), (f_mem_Mem_Read, eReadC), (f_mem_Mem_Bytes, eBytes), (f_bytes_Equal, eEqual), (f_l30_runs, .pure spRuns), (f_l30_passes, .pure spPasses), (f_l30_ChannelCarries_1, in_l30_ChannelCarries_1 ctAct), (f_l30_word, eLword), (f_l30_awake, .pure spAwake)]
theorem ctCa_ok : CTok Try.prog ctCa := ⟨con_ok cal_l30_fresh _, con_ok cal_mem_Mem_Write _, con_ok cal_mem_Mem_Read _, con_ok cal_mem_Mem_Bytes _, con_ok cal_bytes_Equal _, ceRuns, cePasses, in_l30_ChannelCarries_1_ok ctAct_ok, con_ok cal_l30_word _, ceAwake, trivial⟩
theorem ca_wi {i : Nat} (h : i < 1024) : IntKind.i32.wrap (-2147483648 + IntKind.i32.wrap (i : Int)) = -2147483648 + (i : Int) := by rw [IntKind.wrap_i32, IntKind.wrap_i32]; omega
theorem ca_wt {l : List Int} (h : l.length ≤ 150) : IntKind.i32.wrap (-2147483048 + (l.length : Int)) = -2147483048 + (l.length : Int) := by rw [IntKind.wrap_i32]; omega
theorem ca_row {m : Ram} {i : Nat} (hl : m.l.length = 1024) (h : i < 1024) : 0 + (i + 1) * (0 + 1) ≤ (bytesI m.l).length := by rw [bytesI_length, hl, Nat.mul_one]; omega
theorem ca_cell {m : Ram} {i : Nat} (hl : m.l.length = 1024) (h : i < 1024) : (bytesI m.l)[0 + i * (0 + 1)]? = some (SV.int .u8 (m.l.getD i 0)).cv := by
  rw [Nat.zero_add, Nat.zero_add, Nat.mul_one]
  exact bytesI_at (by omega)
theorem ca_cond {v v' a A B C D : Int} (h : (bif bif v != v' then !bif decide (a ≥ A) then decide (a < B) else false else false then !bif decide (a ≥ C) then decide (a < D) else false else false) = true) : v ≠ v' ∧ ¬ (A ≤ a ∧ a < B) ∧ ¬ (C ≤ a ∧ a < D) := by
  by_cases h1 : v = v'
  · subst h1; simp at h
  · by_cases h2 : a ≥ A <;> by_cases h3 : a < B <;> by_cases h4 : a ≥ C <;> by_cases h5 : a < D <;> simp [h1, h2, h3, h4, h5] at h <;> exact ⟨h1, by omega, by omega⟩
theorem ca_same {m M : Ram} {l : List Int} {w : Int} {i : Nat} (hi : i < 1024) (h6 : ∀ j : Nat, j < 1024 → ¬ (600 ≤ j ∧ (j : Int) < 600 + l.length) → ¬ (w - 12 + 2147483648 ≤ j ∧ (j : Int) < w + 2147483648) → M.l.getD j 0 = m.l.getD j 0)
    (h : (bif bif M.l.getD i 0 != m.l.getD i 0 then !bif decide (-2147483648 + (i : Int) ≥ -2147483048) then decide (-2147483648 + (i : Int) < -2147483048 + (l.length : Int)) else false else false then !bif decide (-2147483648 + (i : Int) ≥ w - 12) then decide (-2147483648 + (i : Int) < w) else false else false) = true) : False := by
  obtain ⟨h1, h2, h3⟩ := ca_cond h
  exact h1 (h6 i hi (by omega) (by omega))
set_option maxHeartbeats 2000000 in
theorem ChannelCarries_true (L : List Int) (cap : Nat) (pp pq : Int) (hL : ∀ x ∈ L, 0 ≤ x ∧ x < 256) (hc : L.length ≤ cap) (hm : cap ≤ maxLen) :
    Con Try.prog f_l30_ChannelCarries [.s (.sl 0 0 L.length cap), .s (.bool true), .s (.int .u8 pp), .s (.int .u8 pq)] [.view (bytesI L)] (.ret (.t (.s (.bool true))) [.view (bytesI L)]) := by
  intro K hK
  have hm' : cap ≤ 9223372036854775807 := hm
  obtain ⟨n, hn⟩ : ∃ n, n = min L.length 150 := ⟨_, rfl⟩
  refine enter fn_l30_ChannelCarries rfl nt_l30_ChannelCarries rfl rfl (fun φ w0 β0 F => ?_)
  refine c_run tt_ok ctCa_ok k_l30_ChannelCarries [100032, 100040, 100043] 60 (by kernel_rfl) ?_
  refine ⟨0, n, ⟨_, _, rfl, rfl, rfl, ?_⟩, ⟨by omega, by omega⟩, ?_⟩
  · show (if (150 : Int) < (L.length : Int) then (150 : Int) else (L.length : Int)) = _
    split <;> omega
  obtain ⟨l, hl⟩ : ∃ l, l = L.take n := ⟨_, rfl⟩
  have hln : l.length = n := by rw [hl, List.length_take]; omega
  have hlw : ∀ x ∈ l, 0 ≤ x ∧ x < 256 := fun x hx => hL x (by rw [hl] at hx; exact List.mem_of_mem_take hx)
  have hlv : seg (bytesI L) (0 + 0 * 1) ((n - 0) * 1) = bytesI l := by rw [seg_bytesI, hl]; simp
  have hwn : IntKind.i32.wrap ((n - 0 : Nat) : Int) = (l.length : Int) := by rw [IntKind.wrap_i32]; omega
  have hwl : IntKind.i64.wrap (l.length : Int) = l.length := by rw [wrap64 (by omega) (by omega)]
  have hI : ∀ n, i32B n = true → I32 n := fun n h => i32B_ok h
  have hl150 : l.length ≤ 150 := by omega
  have hnI : I32 (l.length : Int) := by unfold I32; omega
  obtain ⟨hw1, hMs⟩ := msg_write hl150 hlw
  generalize m0.put 400 l = Mw at hw1 hMs
  have hMl := hMs.len
  refine ⟨.t (.s (.int .i32 (l.length : Int))), fun β => by rw [hwn], rfl, ?_⟩
  refine ⟨(m0, l, Mw), ⟨rfl, rfl, rfl, rfl, hlv, by show n - 0 = l.length; omega, hI _ (by decide), by show l.length ≤ 1024; omega, fun hne => ?_, hw1⟩, ?_⟩
  · rw [m0_len]
    unfold spanBad ofAt
    simp; omega
  refine ⟨Mw.l, ⟨rfl, rfl, rfl, rfl, Mw.hi, by have := Mw.lo; omega⟩, ?_⟩
  have h1 : pp % 2 = 0 ∨ pp % 2 = 1 := by omega
  have h2 : pq % 2 = 0 ∨ pq % 2 = 1 := by omega
  rcases h1 with h1 | h1 <;> rcases h2 with h2 | h2
  · obtain ⟨M1, M2, e1, e2, hC⟩ := carry_out false false hMs hl150
    replace e1 : outR (runK (-2147483448) 0 5) Mw l.length (-2147483548) (-2147483248) = (noK, 0, M1) := e1
    replace e2 : inR (noK.pass (-2147483348) 0 6) M1 l.length (-2147483548) (-2147483048) = (⟨0, 0, 0, 6, -2147483348, 0, true, false, false, false, -2147483448, -2147483648, -2147483448, -2147483648, -2147483648, -2147483648, 0, 0, 0, 0, false, 0, 0, 0, 0, 0, false, 0⟩, 0, M2) := e2
    obtain ⟨c1, c2, c3, c4, c5, c6⟩ := hC
    replace c1 : M1.word (-2147483548) = -2147483448 := c1
    have hz1 : IntKind.i32.wrap (-2147483448 + IntKind.i32.wrap (IntKind.i64.wrap 0)) = -2147483448 := by decide
    have hz2 : IntKind.i32.wrap (-2147483452) = -2147483452 := by decide
    have hz3 : IntKind.i64.wrap 0 = 0 := by decide
    replace c4 : M2.word (-2147483452) = 5 := c4
    refine ⟨.t (.s (.int .u8 0)), fun β => by rw [and1_u8, h1], rfl, .t (.s (.int .u8 0)), fun β => by rw [and1_u8, h2], rfl, fun h => absurd h (by decide), fun _ => ?_⟩
    refine ⟨trivial, fun _ => ?_, fun h => absurd h (by decide)⟩
    refine ⟨(Mw, noK, 0, M1), ⟨rfl, rfl, rfl, rfl, ⟨runK_ok (hI _ (by decide)) (by decide) (hI _ (by decide)), hnI, hI _ (by decide), hI _ (by decide)⟩, by dsimp only; exact e1⟩, ?_⟩
    refine ⟨fun _ => ⟨M1, ⟨rfl, rfl, rfl, rfl, hI _ (by decide)⟩, ?_⟩, fun h => absurd h (by simp)⟩
    refine ⟨fun h => absurd h (by simp [c1, hz1]), fun _ => ?_⟩
    refine ⟨trivial, fun h => absurd h (by decide), fun _ => ?_⟩
    refine ⟨(M1, ⟨0, 0, 0, 6, -2147483348, 0, true, false, false, false, -2147483448, -2147483648, -2147483448, -2147483648, -2147483648, -2147483648, 0, 0, 0, 0, false, 0, 0, 0, 0, 0, false, 0⟩, 0, M2), ⟨rfl, rfl, rfl, rfl, ⟨pass_ok noK_ok (hI _ (by decide)) (by decide) (hI _ (by decide)), hnI, hI _ (by decide), hI _ (by decide)⟩, by dsimp only; exact e2⟩, ?_⟩
    refine ⟨fun h => absurd h (by simp [hz3]), fun _ => ?_⟩
    refine ⟨fun _ => ⟨M2, ⟨rfl, rfl, rfl, rfl, hI _ (by decide)⟩, ?_⟩, fun h => absurd h (by decide)⟩
    refine ⟨fun _ => ⟨M2, ⟨rfl, rfl, rfl, rfl, hI _ (by decide)⟩, ?_⟩, fun h => absurd h (by simp [c4, hz2])⟩
    refine ⟨fun h => absurd h (by simp [c4, hz2, c3, NP]), fun _ => ?_⟩
    refine ⟨(M2, l), ⟨rfl, rfl, rfl, rfl, hI _ (by decide), hwl, by show l.length ≤ 1024; omega, fun _ => by rw [c2]; unfold spanBad ofAt; simp; omega, c5⟩, ?_⟩
    refine ⟨M2.l, ⟨rfl, rfl, rfl, rfl, M2.hi, by have := M2.lo; omega⟩, ?_⟩
    refine ⟨(l, l), ⟨rfl, rfl, rfl, by show n - 0 = l.length; omega, rfl, hlw, hlw⟩, fun h => absurd h (by simp), fun _ => ?_⟩
    show WpC _ _ _ _ _
    refine c_loop (α := Nat) (fun i => i ≤ 1024) (fun i => 1024 - i)
      (fun i => [(9, .t (.s (.loc 1 0)), none), (11, .t (.s (.sl 2 0 Mw.l.length Mw.l.length)), none), (14, .t (.s (.int .i32 (-2147483448))), none), (22, .t (.s (.sl 3 0 M2.l.length M2.l.length)), none), (179, .t (.s (.int .i64 (M2.l.length : Int))), none), (180, .t (.s (.int .i64 (i : Int))), none)])
      (fun _ => [.view (bytesI L), .blk 21 [.int .i32 (l.length : Int)], mOwn Mw.l, mOwn M2.l]) 0 (Nat.zero_le _) ?_ ?_
    · exact into [0, 2, 6, 14] ⟨⟨_, rfl, rfl⟩, ⟨_, rfl, rfl⟩, ⟨_, rfl, rfl⟩, ⟨_, rfl, rfl⟩, ⟨_, rfl, rfl⟩, ⟨_, rfl, rfl⟩, trivial⟩ ⟨_, rfl, rfl⟩ rfl rfl rfl rfl
    · intro i hi
      have hi : i ≤ 1024 := hi
      dsimp only
      refine c_run' tt_ok ctCa_ok k_l30_ChannelCarries [100185] 60 (by kernel_rfl) (by kernel_rfl) ?_
      refine ⟨fun h => ?_, fun h => ⟨trivial, ?_⟩⟩
      · have hi2 : i < 1024 := by have h' := of_decide_eq_true h; rw [c2] at h'; omega
        have hM2 : i < M2.l.length := by rw [c2]; exact hi2
        have hMw : i < Mw.l.length := by rw [hMl]; exact hi2
        refine ⟨.t (.s (.int .i32 (-2147483648 + (i : Int)))), fun β => by rw [ca_wi hi2], rfl, ?_⟩
        refine ⟨i, ⟨rfl, hM2, ca_row c2 hi2⟩, .int .u8 (M2.l.getD i 0), rfl, ca_cell c2 hi2, ?_⟩
        refine ⟨i, ⟨rfl, hMw, ca_row hMl hi2⟩, .int .u8 (Mw.l.getD i 0), rfl, ca_cell hMl hi2, ?_⟩
        refine ⟨fun h2 => ?_, fun h2 => ?_⟩
        · rw [ca_wt hl150] at h2
          exact (ca_same (w := -2147483448) hi2 c6 h2).elim
        · refine e_again (i + 1) (by show i + 1 ≤ 1024; omega) (by show 1024 - (i + 1) < 1024 - i; omega) (into [0, 1, 2, 3] ⟨⟨_, rfl, rfl⟩, ⟨_, rfl, rfl⟩, ⟨_, rfl, rfl⟩, ⟨_, rfl, rfl⟩, ⟨_, rfl, rfl⟩, ⟨_, rfl, fvi (wrapSucc (by omega))⟩, trivial⟩ ⟨_, rfl, rfl⟩ rfl rfl rfl rfl)
      · exact fin_k tt_ok (rs := rs_l30_ChannelCarries) rfl rfl hK [0] rfl rfl rfl rfl rfl rfl
  · obtain ⟨M1, M2, e1, e2, hC⟩ := carry_out false true hMs hl150
    replace e1 : outR (runK (-2147483448) 0 5) Mw l.length (-2147483548) (-2147483248) = (noK, 0, M1) := e1
    replace e2 : inR (noK.pass (-2147483348) 1 6) M1 l.length (-2147483548) (-2147483048) = (⟨0, 0, 0, 6, -2147483348, 1, true, false, false, false, -2147483448, -2147483648, -2147483448, -2147483648, -2147483648, -2147483648, 0, 0, 0, 0, false, 0, 0, 0, 0, 0, false, 0⟩, 0, M2) := e2
    obtain ⟨c1, c2, c3, c4, c5, c6⟩ := hC
    replace c1 : M1.word (-2147483548) = -2147483448 := c1
    have hz1 : IntKind.i32.wrap (-2147483448 + IntKind.i32.wrap (IntKind.i64.wrap 0)) = -2147483448 := by decide
    have hz2 : IntKind.i32.wrap (-2147483452) = -2147483452 := by decide
    have hz3 : IntKind.i64.wrap 1 = 1 := by decide
    replace c4 : M2.word (-2147483452) = 5 := c4
    refine ⟨.t (.s (.int .u8 0)), fun β => by rw [and1_u8, h1], rfl, .t (.s (.int .u8 1)), fun β => by rw [and1_u8, h2], rfl, fun h => absurd h (by decide), fun _ => ?_⟩
    refine ⟨trivial, fun _ => ?_, fun h => absurd h (by decide)⟩
    refine ⟨(Mw, noK, 0, M1), ⟨rfl, rfl, rfl, rfl, ⟨runK_ok (hI _ (by decide)) (by decide) (hI _ (by decide)), hnI, hI _ (by decide), hI _ (by decide)⟩, by dsimp only; exact e1⟩, ?_⟩
    refine ⟨fun _ => ⟨M1, ⟨rfl, rfl, rfl, rfl, hI _ (by decide)⟩, ?_⟩, fun h => absurd h (by simp)⟩
    refine ⟨fun h => absurd h (by simp [c1, hz1]), fun _ => ?_⟩
    refine ⟨trivial, fun h => absurd h (by decide), fun _ => ?_⟩
    refine ⟨(M1, ⟨0, 0, 0, 6, -2147483348, 1, true, false, false, false, -2147483448, -2147483648, -2147483448, -2147483648, -2147483648, -2147483648, 0, 0, 0, 0, false, 0, 0, 0, 0, 0, false, 0⟩, 0, M2), ⟨rfl, rfl, rfl, rfl, ⟨pass_ok noK_ok (hI _ (by decide)) (by decide) (hI _ (by decide)), hnI, hI _ (by decide), hI _ (by decide)⟩, by dsimp only; exact e2⟩, ?_⟩
    refine ⟨fun h => absurd h (by simp [hz3]), fun _ => ?_⟩
    refine ⟨fun _ => ⟨M2, ⟨rfl, rfl, rfl, rfl, hI _ (by decide)⟩, ?_⟩, fun h => absurd h (by decide)⟩
    refine ⟨fun _ => ⟨M2, ⟨rfl, rfl, rfl, rfl, hI _ (by decide)⟩, ?_⟩, fun h => absurd h (by simp [c4, hz2])⟩
    refine ⟨fun h => absurd h (by simp [c4, hz2, c3, NP]), fun _ => ?_⟩
    refine ⟨(M2, l), ⟨rfl, rfl, rfl, rfl, hI _ (by decide), hwl, by show l.length ≤ 1024; omega, fun _ => by rw [c2]; unfold spanBad ofAt; simp; omega, c5⟩, ?_⟩
    refine ⟨M2.l, ⟨rfl, rfl, rfl, rfl, M2.hi, by have := M2.lo; omega⟩, ?_⟩
    refine ⟨(l, l), ⟨rfl, rfl, rfl, by show n - 0 = l.length; omega, rfl, hlw, hlw⟩, fun h => absurd h (by simp), fun _ => ?_⟩
    show WpC _ _ _ _ _
    refine c_loop (α := Nat) (fun i => i ≤ 1024) (fun i => 1024 - i)
      (fun i => [(9, .t (.s (.loc 1 0)), none), (11, .t (.s (.sl 2 0 Mw.l.length Mw.l.length)), none), (14, .t (.s (.int .i32 (-2147483448))), none), (22, .t (.s (.sl 3 0 M2.l.length M2.l.length)), none), (179, .t (.s (.int .i64 (M2.l.length : Int))), none), (180, .t (.s (.int .i64 (i : Int))), none)])
      (fun _ => [.view (bytesI L), .blk 21 [.int .i32 (l.length : Int)], mOwn Mw.l, mOwn M2.l]) 0 (Nat.zero_le _) ?_ ?_
    · exact into [0, 2, 6, 14] ⟨⟨_, rfl, rfl⟩, ⟨_, rfl, rfl⟩, ⟨_, rfl, rfl⟩, ⟨_, rfl, rfl⟩, ⟨_, rfl, rfl⟩, ⟨_, rfl, rfl⟩, trivial⟩ ⟨_, rfl, rfl⟩ rfl rfl rfl rfl
    · intro i hi
      have hi : i ≤ 1024 := hi
      dsimp only
      refine c_run' tt_ok ctCa_ok k_l30_ChannelCarries [100185] 60 (by kernel_rfl) (by kernel_rfl) ?_
      refine ⟨fun h => ?_, fun h => ⟨trivial, ?_⟩⟩
      · have hi2 : i < 1024 := by have h' := of_decide_eq_true h; rw [c2] at h'; omega
        have hM2 : i < M2.l.length := by rw [c2]; exact hi2
        have hMw : i < Mw.l.length := by rw [hMl]; exact hi2
        refine ⟨.t (.s (.int .i32 (-2147483648 + (i : Int)))), fun β => by rw [ca_wi hi2], rfl, ?_⟩
        refine ⟨i, ⟨rfl, hM2, ca_row c2 hi2⟩, .int .u8 (M2.l.getD i 0), rfl, ca_cell c2 hi2, ?_⟩
        refine ⟨i, ⟨rfl, hMw, ca_row hMl hi2⟩, .int .u8 (Mw.l.getD i 0), rfl, ca_cell hMl hi2, ?_⟩
        refine ⟨fun h2 => ?_, fun h2 => ?_⟩
        · rw [ca_wt hl150] at h2
          exact (ca_same (w := -2147483448) hi2 c6 h2).elim
        · refine e_again (i + 1) (by show i + 1 ≤ 1024; omega) (by show 1024 - (i + 1) < 1024 - i; omega) (into [0, 1, 2, 3] ⟨⟨_, rfl, rfl⟩, ⟨_, rfl, rfl⟩, ⟨_, rfl, rfl⟩, ⟨_, rfl, rfl⟩, ⟨_, rfl, rfl⟩, ⟨_, rfl, fvi (wrapSucc (by omega))⟩, trivial⟩ ⟨_, rfl, rfl⟩ rfl rfl rfl rfl)
      · exact fin_k tt_ok (rs := rs_l30_ChannelCarries) rfl rfl hK [0] rfl rfl rfl rfl rfl rfl
  · obtain ⟨M1, M2, e1, e2, hC⟩ := carry_out true false hMs hl150
    replace e1 : outR (runK (-2147483448) 1 5) Mw l.length (-2147483548) (-2147483248) = (noK, 0, M1) := e1
    replace e2 : inR (noK.pass (-2147483348) 0 6) M1 l.length (-2147483548) (-2147483048) = (⟨0, 0, 0, 6, -2147483348, 0, true, false, false, false, -2147483648, -2147483448, -2147483648, -2147483448, -2147483648, -2147483648, 0, 0, 0, 0, false, 0, 0, 0, 0, 0, false, 0⟩, 0, M2) := e2
    obtain ⟨c1, c2, c3, c4, c5, c6⟩ := hC
    replace c1 : M1.word (-2147483548) = -2147483447 := c1
    have hz1 : IntKind.i32.wrap (-2147483448 + IntKind.i32.wrap (IntKind.i64.wrap 1)) = -2147483447 := by decide
    have hz2 : IntKind.i32.wrap (-2147483452) = -2147483452 := by decide
    have hz3 : IntKind.i64.wrap 0 = 0 := by decide
    replace c4 : M2.word (-2147483452) = 5 := c4
    refine ⟨.t (.s (.int .u8 1)), fun β => by rw [and1_u8, h1], rfl, .t (.s (.int .u8 0)), fun β => by rw [and1_u8, h2], rfl, fun h => absurd h (by decide), fun _ => ?_⟩
    refine ⟨trivial, fun _ => ?_, fun h => absurd h (by decide)⟩
    refine ⟨(Mw, noK, 0, M1), ⟨rfl, rfl, rfl, rfl, ⟨runK_ok (hI _ (by decide)) (by decide) (hI _ (by decide)), hnI, hI _ (by decide), hI _ (by decide)⟩, by dsimp only; exact e1⟩, ?_⟩
    refine ⟨fun _ => ⟨M1, ⟨rfl, rfl, rfl, rfl, hI _ (by decide)⟩, ?_⟩, fun h => absurd h (by simp)⟩
    refine ⟨fun h => absurd h (by simp [c1, hz1]), fun _ => ?_⟩
    refine ⟨trivial, fun h => absurd h (by decide), fun _ => ?_⟩
    refine ⟨(M1, ⟨0, 0, 0, 6, -2147483348, 0, true, false, false, false, -2147483648, -2147483448, -2147483648, -2147483448, -2147483648, -2147483648, 0, 0, 0, 0, false, 0, 0, 0, 0, 0, false, 0⟩, 0, M2), ⟨rfl, rfl, rfl, rfl, ⟨pass_ok noK_ok (hI _ (by decide)) (by decide) (hI _ (by decide)), hnI, hI _ (by decide), hI _ (by decide)⟩, by dsimp only; exact e2⟩, ?_⟩
    refine ⟨fun h => absurd h (by simp [hz3]), fun _ => ?_⟩
    refine ⟨fun _ => ⟨M2, ⟨rfl, rfl, rfl, rfl, hI _ (by decide)⟩, ?_⟩, fun h => absurd h (by decide)⟩
    refine ⟨fun _ => ⟨M2, ⟨rfl, rfl, rfl, rfl, hI _ (by decide)⟩, ?_⟩, fun h => absurd h (by simp [c4, hz2])⟩
    refine ⟨fun h => absurd h (by simp [c4, hz2, c3, NP]), fun _ => ?_⟩
    refine ⟨(M2, l), ⟨rfl, rfl, rfl, rfl, hI _ (by decide), hwl, by show l.length ≤ 1024; omega, fun _ => by rw [c2]; unfold spanBad ofAt; simp; omega, c5⟩, ?_⟩
    refine ⟨M2.l, ⟨rfl, rfl, rfl, rfl, M2.hi, by have := M2.lo; omega⟩, ?_⟩
    refine ⟨(l, l), ⟨rfl, rfl, rfl, by show n - 0 = l.length; omega, rfl, hlw, hlw⟩, fun h => absurd h (by simp), fun _ => ?_⟩
    show WpC _ _ _ _ _
    refine c_loop (α := Nat) (fun i => i ≤ 1024) (fun i => 1024 - i)
      (fun i => [(9, .t (.s (.loc 1 0)), none), (11, .t (.s (.sl 2 0 Mw.l.length Mw.l.length)), none), (14, .t (.s (.int .i32 (-2147483448))), none), (22, .t (.s (.sl 3 0 M2.l.length M2.l.length)), none), (179, .t (.s (.int .i64 (M2.l.length : Int))), none), (180, .t (.s (.int .i64 (i : Int))), none)])
      (fun _ => [.view (bytesI L), .blk 21 [.int .i32 (l.length : Int)], mOwn Mw.l, mOwn M2.l]) 0 (Nat.zero_le _) ?_ ?_
    · exact into [0, 2, 6, 14] ⟨⟨_, rfl, rfl⟩, ⟨_, rfl, rfl⟩, ⟨_, rfl, rfl⟩, ⟨_, rfl, rfl⟩, ⟨_, rfl, rfl⟩, ⟨_, rfl, rfl⟩, trivial⟩ ⟨_, rfl, rfl⟩ rfl rfl rfl rfl
    · intro i hi
      have hi : i ≤ 1024 := hi
      dsimp only
      refine c_run' tt_ok ctCa_ok k_l30_ChannelCarries [100185] 60 (by kernel_rfl) (by kernel_rfl) ?_
      refine ⟨fun h => ?_, fun h => ⟨trivial, ?_⟩⟩
      · have hi2 : i < 1024 := by have h' := of_decide_eq_true h; rw [c2] at h'; omega
        have hM2 : i < M2.l.length := by rw [c2]; exact hi2
        have hMw : i < Mw.l.length := by rw [hMl]; exact hi2
        refine ⟨.t (.s (.int .i32 (-2147483648 + (i : Int)))), fun β => by rw [ca_wi hi2], rfl, ?_⟩
        refine ⟨i, ⟨rfl, hM2, ca_row c2 hi2⟩, .int .u8 (M2.l.getD i 0), rfl, ca_cell c2 hi2, ?_⟩
        refine ⟨i, ⟨rfl, hMw, ca_row hMl hi2⟩, .int .u8 (Mw.l.getD i 0), rfl, ca_cell hMl hi2, ?_⟩
        refine ⟨fun h2 => ?_, fun h2 => ?_⟩
        · rw [ca_wt hl150] at h2
          exact (ca_same (w := -2147483448) hi2 c6 h2).elim
        · refine e_again (i + 1) (by show i + 1 ≤ 1024; omega) (by show 1024 - (i + 1) < 1024 - i; omega) (into [0, 1, 2, 3] ⟨⟨_, rfl, rfl⟩, ⟨_, rfl, rfl⟩, ⟨_, rfl, rfl⟩, ⟨_, rfl, rfl⟩, ⟨_, rfl, rfl⟩, ⟨_, rfl, fvi (wrapSucc (by omega))⟩, trivial⟩ ⟨_, rfl, rfl⟩ rfl rfl rfl rfl)
      · exact fin_k tt_ok (rs := rs_l30_ChannelCarries) rfl rfl hK [0] rfl rfl rfl rfl rfl rfl
  · obtain ⟨M1, M2, e1, e2, hC⟩ := carry_out true true hMs hl150
    replace e1 : outR (runK (-2147483448) 1 5) Mw l.length (-2147483548) (-2147483248) = (noK, 0, M1) := e1
    replace e2 : inR (noK.pass (-2147483348) 1 6) M1 l.length (-2147483548) (-2147483048) = (⟨0, 0, 0, 6, -2147483348, 1, true, false, false, false, -2147483648, -2147483448, -2147483648, -2147483448, -2147483648, -2147483648, 0, 0, 0, 0, false, 0, 0, 0, 0, 0, false, 0⟩, 0, M2) := e2
    obtain ⟨c1, c2, c3, c4, c5, c6⟩ := hC
    replace c1 : M1.word (-2147483548) = -2147483447 := c1
    have hz1 : IntKind.i32.wrap (-2147483448 + IntKind.i32.wrap (IntKind.i64.wrap 1)) = -2147483447 := by decide
    have hz2 : IntKind.i32.wrap (-2147483452) = -2147483452 := by decide
    have hz3 : IntKind.i64.wrap 1 = 1 := by decide
    replace c4 : M2.word (-2147483452) = 5 := c4
    refine ⟨.t (.s (.int .u8 1)), fun β => by rw [and1_u8, h1], rfl, .t (.s (.int .u8 1)), fun β => by rw [and1_u8, h2], rfl, fun h => absurd h (by decide), fun _ => ?_⟩
    refine ⟨trivial, fun _ => ?_, fun h => absurd h (by decide)⟩
    refine ⟨(Mw, noK, 0, M1), ⟨rfl, rfl, rfl, rfl, ⟨runK_ok (hI _ (by decide)) (by decide) (hI _ (by decide)), hnI, hI _ (by decide), hI _ (by decide)⟩, by dsimp only; exact e1⟩, ?_⟩
    refine ⟨fun _ => ⟨M1, ⟨rfl, rfl, rfl, rfl, hI _ (by decide)⟩, ?_⟩, fun h => absurd h (by simp)⟩
    refine ⟨fun h => absurd h (by simp [c1, hz1]), fun _ => ?_⟩
    refine ⟨trivial, fun h => absurd h (by decide), fun _ => ?_⟩
    refine ⟨(M1, ⟨0, 0, 0, 6, -2147483348, 1, true, false, false, false, -2147483648, -2147483448, -2147483648, -2147483448, -2147483648, -2147483648, 0, 0, 0, 0, false, 0, 0, 0, 0, 0, false, 0⟩, 0, M2), ⟨rfl, rfl, rfl, rfl, ⟨pass_ok noK_ok (hI _ (by decide)) (by decide) (hI _ (by decide)), hnI, hI _ (by decide), hI _ (by decide)⟩, by dsimp only; exact e2⟩, ?_⟩
    refine ⟨fun h => absurd h (by simp [hz3]), fun _ => ?_⟩
    refine ⟨fun _ => ⟨M2, ⟨rfl, rfl, rfl, rfl, hI _ (by decide)⟩, ?_⟩, fun h => absurd h (by decide)⟩
    refine ⟨fun _ => ⟨M2, ⟨rfl, rfl, rfl, rfl, hI _ (by decide)⟩, ?_⟩, fun h => absurd h (by simp [c4, hz2])⟩
    refine ⟨fun h => absurd h (by simp [c4, hz2, c3, NP]), fun _ => ?_⟩
    refine ⟨(M2, l), ⟨rfl, rfl, rfl, rfl, hI _ (by decide), hwl, by show l.length ≤ 1024; omega, fun _ => by rw [c2]; unfold spanBad ofAt; simp; omega, c5⟩, ?_⟩
    refine ⟨M2.l, ⟨rfl, rfl, rfl, rfl, M2.hi, by have := M2.lo; omega⟩, ?_⟩
    refine ⟨(l, l), ⟨rfl, rfl, rfl, by show n - 0 = l.length; omega, rfl, hlw, hlw⟩, fun h => absurd h (by simp), fun _ => ?_⟩
    show WpC _ _ _ _ _
    refine c_loop (α := Nat) (fun i => i ≤ 1024) (fun i => 1024 - i)
      (fun i => [(9, .t (.s (.loc 1 0)), none), (11, .t (.s (.sl 2 0 Mw.l.length Mw.l.length)), none), (14, .t (.s (.int .i32 (-2147483448))), none), (22, .t (.s (.sl 3 0 M2.l.length M2.l.length)), none), (179, .t (.s (.int .i64 (M2.l.length : Int))), none), (180, .t (.s (.int .i64 (i : Int))), none)])
      (fun _ => [.view (bytesI L), .blk 21 [.int .i32 (l.length : Int)], mOwn Mw.l, mOwn M2.l]) 0 (Nat.zero_le _) ?_ ?_
    · exact into [0, 2, 6, 14] ⟨⟨_, rfl, rfl⟩, ⟨_, rfl, rfl⟩, ⟨_, rfl, rfl⟩, ⟨_, rfl, rfl⟩, ⟨_, rfl, rfl⟩, ⟨_, rfl, rfl⟩, trivial⟩ ⟨_, rfl, rfl⟩ rfl rfl rfl rfl
    · intro i hi
      have hi : i ≤ 1024 := hi
      dsimp only
      refine c_run' tt_ok ctCa_ok k_l30_ChannelCarries [100185] 60 (by kernel_rfl) (by kernel_rfl) ?_
      refine ⟨fun h => ?_, fun h => ⟨trivial, ?_⟩⟩
      · have hi2 : i < 1024 := by have h' := of_decide_eq_true h; rw [c2] at h'; omega
        have hM2 : i < M2.l.length := by rw [c2]; exact hi2
        have hMw : i < Mw.l.length := by rw [hMl]; exact hi2
        refine ⟨.t (.s (.int .i32 (-2147483648 + (i : Int)))), fun β => by rw [ca_wi hi2], rfl, ?_⟩
        refine ⟨i, ⟨rfl, hM2, ca_row c2 hi2⟩, .int .u8 (M2.l.getD i 0), rfl, ca_cell c2 hi2, ?_⟩
        refine ⟨i, ⟨rfl, hMw, ca_row hMl hi2⟩, .int .u8 (Mw.l.getD i 0), rfl, ca_cell hMl hi2, ?_⟩
        refine ⟨fun h2 => ?_, fun h2 => ?_⟩
        · rw [ca_wt hl150] at h2
          exact (ca_same (w := -2147483448) hi2 c6 h2).elim
        · refine e_again (i + 1) (by show i + 1 ≤ 1024; omega) (by show 1024 - (i + 1) < 1024 - i; omega) (into [0, 1, 2, 3] ⟨⟨_, rfl, rfl⟩, ⟨_, rfl, rfl⟩, ⟨_, rfl, rfl⟩, ⟨_, rfl, rfl⟩, ⟨_, rfl, rfl⟩, ⟨_, rfl, fvi (wrapSucc (by omega))⟩, trivial⟩ ⟨_, rfl, rfl⟩ rfl rfl rfl rfl)
      · exact fin_k tt_ok (rs := rs_l30_ChannelCarries) rfl rfl hK [0] rfl rfl rfl rfl rfl rfl
set_option maxHeartbeats 2000000 in
theorem ChannelCarries_false (L : List Int) (cap : Nat) (pp pq : Int) (hL : ∀ x ∈ L, 0 ≤ x ∧ x < 256) (hc : L.length ≤ cap) (hm : cap ≤ maxLen) :
    Con Try.prog f_l30_ChannelCarries [.s (.sl 0 0 L.length cap), .s (.bool false), .s (.int .u8 pp), .s (.int .u8 pq)] [.view (bytesI L)] (.ret (.t (.s (.bool true))) [.view (bytesI L)]) := by
  intro K hK
  have hm' : cap ≤ 9223372036854775807 := hm
  obtain ⟨n, hn⟩ : ∃ n, n = min L.length 150 := ⟨_, rfl⟩
  refine enter fn_l30_ChannelCarries rfl nt_l30_ChannelCarries rfl rfl (fun φ w0 β0 F => ?_)
  refine c_run tt_ok ctCa_ok k_l30_ChannelCarries [100032, 100040, 100043] 60 (by kernel_rfl) ?_
  refine ⟨0, n, ⟨_, _, rfl, rfl, rfl, ?_⟩, ⟨by omega, by omega⟩, ?_⟩
  · show (if (150 : Int) < (L.length : Int) then (150 : Int) else (L.length : Int)) = _
    split <;> omega
  obtain ⟨l, hl⟩ : ∃ l, l = L.take n := ⟨_, rfl⟩
  have hln : l.length = n := by rw [hl, List.length_take]; omega
  have hlw : ∀ x ∈ l, 0 ≤ x ∧ x < 256 := fun x hx => hL x (by rw [hl] at hx; exact List.mem_of_mem_take hx)
  have hlv : seg (bytesI L) (0 + 0 * 1) ((n - 0) * 1) = bytesI l := by rw [seg_bytesI, hl]; simp
  have hwn : IntKind.i32.wrap ((n - 0 : Nat) : Int) = (l.length : Int) := by rw [IntKind.wrap_i32]; omega
  have hwl : IntKind.i64.wrap (l.length : Int) = l.length := by rw [wrap64 (by omega) (by omega)]
  have hI : ∀ n, i32B n = true → I32 n := fun n h => i32B_ok h
  have hl150 : l.length ≤ 150 := by omega
  have hnI : I32 (l.length : Int) := by unfold I32; omega
  obtain ⟨hw1, hMs⟩ := msg_write hl150 hlw
  generalize m0.put 400 l = Mw at hw1 hMs
  have hMl := hMs.len
  refine ⟨.t (.s (.int .i32 (l.length : Int))), fun β => by rw [hwn], rfl, ?_⟩
  refine ⟨(m0, l, Mw), ⟨rfl, rfl, rfl, rfl, hlv, by show n - 0 = l.length; omega, hI _ (by decide), by show l.length ≤ 1024; omega, fun hne => ?_, hw1⟩, ?_⟩
  · rw [m0_len]
    unfold spanBad ofAt
    simp; omega
  refine ⟨Mw.l, ⟨rfl, rfl, rfl, rfl, Mw.hi, by have := Mw.lo; omega⟩, ?_⟩
  have h1 : pp % 2 = 0 ∨ pp % 2 = 1 := by omega
  have h2 : pq % 2 = 0 ∨ pq % 2 = 1 := by omega
  rcases h1 with h1 | h1 <;> rcases h2 with h2 | h2
  · obtain ⟨M1, M2, e1, e2, hC⟩ := carry_in false false hMs hl150
    replace e1 : inR (runK (-2147483348) 0 5) Mw l.length (-2147483548) (-2147483048) = (noK, 0, M1) := e1
    replace e2 : outR (noK.pass (-2147483448) 0 6) M1 l.length (-2147483548) (-2147483248) = (⟨0, 0, 0, 6, -2147483448, 0, true, false, false, false, -2147483348, -2147483648, -2147483348, -2147483648, -2147483648, -2147483648, 0, 0, 0, 0, false, 0, 0, 0, 0, 0, false, 0⟩, 0, M2) := e2
    obtain ⟨c1, c2, c3, c4, c5, c6⟩ := hC
    replace c1 : M1.word (-2147483548) = -2147483348 := c1
    have hz1 : IntKind.i32.wrap (-2147483348 + IntKind.i32.wrap (IntKind.i64.wrap 0)) = -2147483348 := by decide
    have hz2 : IntKind.i32.wrap (-2147483352) = -2147483352 := by decide
    have hz3 : IntKind.i64.wrap 0 = 0 := by decide
    replace c4 : M2.word (-2147483352) = 5 := c4
    refine ⟨.t (.s (.int .u8 0)), fun β => by rw [and1_u8, h1], rfl, .t (.s (.int .u8 0)), fun β => by rw [and1_u8, h2], rfl, fun _ => ?_, fun h => absurd h (by decide)⟩
    refine ⟨trivial, fun h => absurd h (by decide), fun _ => ?_⟩
    refine ⟨(Mw, noK, 0, M1), ⟨rfl, rfl, rfl, rfl, ⟨runK_ok (hI _ (by decide)) (by decide) (hI _ (by decide)), hnI, hI _ (by decide), hI _ (by decide)⟩, by dsimp only; exact e1⟩, ?_⟩
    refine ⟨fun _ => ⟨M1, ⟨rfl, rfl, rfl, rfl, hI _ (by decide)⟩, ?_⟩, fun h => absurd h (by simp)⟩
    refine ⟨fun h => absurd h (by simp [c1, hz1]), fun _ => ?_⟩
    refine ⟨trivial, fun _ => ?_, fun h => absurd h (by decide)⟩
    refine ⟨(M1, ⟨0, 0, 0, 6, -2147483448, 0, true, false, false, false, -2147483348, -2147483648, -2147483348, -2147483648, -2147483648, -2147483648, 0, 0, 0, 0, false, 0, 0, 0, 0, 0, false, 0⟩, 0, M2), ⟨rfl, rfl, rfl, rfl, ⟨pass_ok noK_ok (hI _ (by decide)) (by decide) (hI _ (by decide)), hnI, hI _ (by decide), hI _ (by decide)⟩, by dsimp only; exact e2⟩, ?_⟩
    refine ⟨fun h => absurd h (by simp [hz3]), fun _ => ?_⟩
    refine ⟨fun _ => ⟨M2, ⟨rfl, rfl, rfl, rfl, hI _ (by decide)⟩, ?_⟩, fun h => absurd h (by decide)⟩
    refine ⟨fun _ => ⟨M2, ⟨rfl, rfl, rfl, rfl, hI _ (by decide)⟩, ?_⟩, fun h => absurd h (by simp [c4, hz2])⟩
    refine ⟨fun h => absurd h (by simp [c4, hz2, c3, NP]), fun _ => ?_⟩
    refine ⟨(M2, l), ⟨rfl, rfl, rfl, rfl, hI _ (by decide), hwl, by show l.length ≤ 1024; omega, fun _ => by rw [c2]; unfold spanBad ofAt; simp; omega, c5⟩, ?_⟩
    refine ⟨M2.l, ⟨rfl, rfl, rfl, rfl, M2.hi, by have := M2.lo; omega⟩, ?_⟩
    refine ⟨(l, l), ⟨rfl, rfl, rfl, by show n - 0 = l.length; omega, rfl, hlw, hlw⟩, fun h => absurd h (by simp), fun _ => ?_⟩
    show WpC _ _ _ _ _
    refine c_loop (α := Nat) (fun i => i ≤ 1024) (fun i => 1024 - i)
      (fun i => [(9, .t (.s (.loc 1 0)), none), (11, .t (.s (.sl 2 0 Mw.l.length Mw.l.length)), none), (14, .t (.s (.int .i32 (-2147483348))), none), (22, .t (.s (.sl 3 0 M2.l.length M2.l.length)), none), (179, .t (.s (.int .i64 (M2.l.length : Int))), none), (180, .t (.s (.int .i64 (i : Int))), none)])
      (fun _ => [.view (bytesI L), .blk 21 [.int .i32 (l.length : Int)], mOwn Mw.l, mOwn M2.l]) 0 (Nat.zero_le _) ?_ ?_
    · exact into [0, 2, 6, 14] ⟨⟨_, rfl, rfl⟩, ⟨_, rfl, rfl⟩, ⟨_, rfl, rfl⟩, ⟨_, rfl, rfl⟩, ⟨_, rfl, rfl⟩, ⟨_, rfl, rfl⟩, trivial⟩ ⟨_, rfl, rfl⟩ rfl rfl rfl rfl
    · intro i hi
      have hi : i ≤ 1024 := hi
      dsimp only
      refine c_run' tt_ok ctCa_ok k_l30_ChannelCarries [100185] 60 (by kernel_rfl) (by kernel_rfl) ?_
      refine ⟨fun h => ?_, fun h => ⟨trivial, ?_⟩⟩
      · have hi2 : i < 1024 := by have h' := of_decide_eq_true h; rw [c2] at h'; omega
        have hM2 : i < M2.l.length := by rw [c2]; exact hi2
        have hMw : i < Mw.l.length := by rw [hMl]; exact hi2
        refine ⟨.t (.s (.int .i32 (-2147483648 + (i : Int)))), fun β => by rw [ca_wi hi2], rfl, ?_⟩
        refine ⟨i, ⟨rfl, hM2, ca_row c2 hi2⟩, .int .u8 (M2.l.getD i 0), rfl, ca_cell c2 hi2, ?_⟩
        refine ⟨i, ⟨rfl, hMw, ca_row hMl hi2⟩, .int .u8 (Mw.l.getD i 0), rfl, ca_cell hMl hi2, ?_⟩
        refine ⟨fun h2 => ?_, fun h2 => ?_⟩
        · rw [ca_wt hl150] at h2
          exact (ca_same (w := -2147483348) hi2 c6 h2).elim
        · refine e_again (i + 1) (by show i + 1 ≤ 1024; omega) (by show 1024 - (i + 1) < 1024 - i; omega) (into [0, 1, 2, 3] ⟨⟨_, rfl, rfl⟩, ⟨_, rfl, rfl⟩, ⟨_, rfl, rfl⟩, ⟨_, rfl, rfl⟩, ⟨_, rfl, rfl⟩, ⟨_, rfl, fvi (wrapSucc (by omega))⟩, trivial⟩ ⟨_, rfl, rfl⟩ rfl rfl rfl rfl)
      · exact fin_k tt_ok (rs := rs_l30_ChannelCarries) rfl rfl hK [0] rfl rfl rfl rfl rfl rfl
  · obtain ⟨M1, M2, e1, e2, hC⟩ := carry_in true false hMs hl150
    replace e1 : inR (runK (-2147483348) 1 5) Mw l.length (-2147483548) (-2147483048) = (noK, 0, M1) := e1
    replace e2 : outR (noK.pass (-2147483448) 0 6) M1 l.length (-2147483548) (-2147483248) = (⟨0, 0, 0, 6, -2147483448, 0, true, false, false, false, -2147483648, -2147483348, -2147483648, -2147483348, -2147483648, -2147483648, 0, 0, 0, 0, false, 0, 0, 0, 0, 0, false, 0⟩, 0, M2) := e2
    obtain ⟨c1, c2, c3, c4, c5, c6⟩ := hC
    replace c1 : M1.word (-2147483548) = -2147483347 := c1
    have hz1 : IntKind.i32.wrap (-2147483348 + IntKind.i32.wrap (IntKind.i64.wrap 1)) = -2147483347 := by decide
    have hz2 : IntKind.i32.wrap (-2147483352) = -2147483352 := by decide
    have hz3 : IntKind.i64.wrap 0 = 0 := by decide
    replace c4 : M2.word (-2147483352) = 5 := c4
    refine ⟨.t (.s (.int .u8 0)), fun β => by rw [and1_u8, h1], rfl, .t (.s (.int .u8 1)), fun β => by rw [and1_u8, h2], rfl, fun _ => ?_, fun h => absurd h (by decide)⟩
    refine ⟨trivial, fun h => absurd h (by decide), fun _ => ?_⟩
    refine ⟨(Mw, noK, 0, M1), ⟨rfl, rfl, rfl, rfl, ⟨runK_ok (hI _ (by decide)) (by decide) (hI _ (by decide)), hnI, hI _ (by decide), hI _ (by decide)⟩, by dsimp only; exact e1⟩, ?_⟩
    refine ⟨fun _ => ⟨M1, ⟨rfl, rfl, rfl, rfl, hI _ (by decide)⟩, ?_⟩, fun h => absurd h (by simp)⟩
    refine ⟨fun h => absurd h (by simp [c1, hz1]), fun _ => ?_⟩
    refine ⟨trivial, fun _ => ?_, fun h => absurd h (by decide)⟩
    refine ⟨(M1, ⟨0, 0, 0, 6, -2147483448, 0, true, false, false, false, -2147483648, -2147483348, -2147483648, -2147483348, -2147483648, -2147483648, 0, 0, 0, 0, false, 0, 0, 0, 0, 0, false, 0⟩, 0, M2), ⟨rfl, rfl, rfl, rfl, ⟨pass_ok noK_ok (hI _ (by decide)) (by decide) (hI _ (by decide)), hnI, hI _ (by decide), hI _ (by decide)⟩, by dsimp only; exact e2⟩, ?_⟩
    refine ⟨fun h => absurd h (by simp [hz3]), fun _ => ?_⟩
    refine ⟨fun _ => ⟨M2, ⟨rfl, rfl, rfl, rfl, hI _ (by decide)⟩, ?_⟩, fun h => absurd h (by decide)⟩
    refine ⟨fun _ => ⟨M2, ⟨rfl, rfl, rfl, rfl, hI _ (by decide)⟩, ?_⟩, fun h => absurd h (by simp [c4, hz2])⟩
    refine ⟨fun h => absurd h (by simp [c4, hz2, c3, NP]), fun _ => ?_⟩
    refine ⟨(M2, l), ⟨rfl, rfl, rfl, rfl, hI _ (by decide), hwl, by show l.length ≤ 1024; omega, fun _ => by rw [c2]; unfold spanBad ofAt; simp; omega, c5⟩, ?_⟩
    refine ⟨M2.l, ⟨rfl, rfl, rfl, rfl, M2.hi, by have := M2.lo; omega⟩, ?_⟩
    refine ⟨(l, l), ⟨rfl, rfl, rfl, by show n - 0 = l.length; omega, rfl, hlw, hlw⟩, fun h => absurd h (by simp), fun _ => ?_⟩
    show WpC _ _ _ _ _
    refine c_loop (α := Nat) (fun i => i ≤ 1024) (fun i => 1024 - i)
      (fun i => [(9, .t (.s (.loc 1 0)), none), (11, .t (.s (.sl 2 0 Mw.l.length Mw.l.length)), none), (14, .t (.s (.int .i32 (-2147483348))), none), (22, .t (.s (.sl 3 0 M2.l.length M2.l.length)), none), (179, .t (.s (.int .i64 (M2.l.length : Int))), none), (180, .t (.s (.int .i64 (i : Int))), none)])
      (fun _ => [.view (bytesI L), .blk 21 [.int .i32 (l.length : Int)], mOwn Mw.l, mOwn M2.l]) 0 (Nat.zero_le _) ?_ ?_
    · exact into [0, 2, 6, 14] ⟨⟨_, rfl, rfl⟩, ⟨_, rfl, rfl⟩, ⟨_, rfl, rfl⟩, ⟨_, rfl, rfl⟩, ⟨_, rfl, rfl⟩, ⟨_, rfl, rfl⟩, trivial⟩ ⟨_, rfl, rfl⟩ rfl rfl rfl rfl
    · intro i hi
      have hi : i ≤ 1024 := hi
      dsimp only
      refine c_run' tt_ok ctCa_ok k_l30_ChannelCarries [100185] 60 (by kernel_rfl) (by kernel_rfl) ?_
      refine ⟨fun h => ?_, fun h => ⟨trivial, ?_⟩⟩
      · have hi2 : i < 1024 := by have h' := of_decide_eq_true h; rw [c2] at h'; omega
        have hM2 : i < M2.l.length := by rw [c2]; exact hi2
        have hMw : i < Mw.l.length := by rw [hMl]; exact hi2
        refine ⟨.t (.s (.int .i32 (-2147483648 + (i : Int)))), fun β => by rw [ca_wi hi2], rfl, ?_⟩
        refine ⟨i, ⟨rfl, hM2, ca_row c2 hi2⟩, .int .u8 (M2.l.getD i 0), rfl, ca_cell c2 hi2, ?_⟩
        refine ⟨i, ⟨rfl, hMw, ca_row hMl hi2⟩, .int .u8 (Mw.l.getD i 0), rfl, ca_cell hMl hi2, ?_⟩
        refine ⟨fun h2 => ?_, fun h2 => ?_⟩
        · rw [ca_wt hl150] at h2
          exact (ca_same (w := -2147483348) hi2 c6 h2).elim
        · refine e_again (i + 1) (by show i + 1 ≤ 1024; omega) (by show 1024 - (i + 1) < 1024 - i; omega) (into [0, 1, 2, 3] ⟨⟨_, rfl, rfl⟩, ⟨_, rfl, rfl⟩, ⟨_, rfl, rfl⟩, ⟨_, rfl, rfl⟩, ⟨_, rfl, rfl⟩, ⟨_, rfl, fvi (wrapSucc (by omega))⟩, trivial⟩ ⟨_, rfl, rfl⟩ rfl rfl rfl rfl)
      · exact fin_k tt_ok (rs := rs_l30_ChannelCarries) rfl rfl hK [0] rfl rfl rfl rfl rfl rfl
  · obtain ⟨M1, M2, e1, e2, hC⟩ := carry_in false true hMs hl150
    replace e1 : inR (runK (-2147483348) 0 5) Mw l.length (-2147483548) (-2147483048) = (noK, 0, M1) := e1
    replace e2 : outR (noK.pass (-2147483448) 1 6) M1 l.length (-2147483548) (-2147483248) = (⟨0, 0, 0, 6, -2147483448, 1, true, false, false, false, -2147483348, -2147483648, -2147483348, -2147483648, -2147483648, -2147483648, 0, 0, 0, 0, false, 0, 0, 0, 0, 0, false, 0⟩, 0, M2) := e2
    obtain ⟨c1, c2, c3, c4, c5, c6⟩ := hC
    replace c1 : M1.word (-2147483548) = -2147483348 := c1
    have hz1 : IntKind.i32.wrap (-2147483348 + IntKind.i32.wrap (IntKind.i64.wrap 0)) = -2147483348 := by decide
    have hz2 : IntKind.i32.wrap (-2147483352) = -2147483352 := by decide
    have hz3 : IntKind.i64.wrap 1 = 1 := by decide
    replace c4 : M2.word (-2147483352) = 5 := c4
    refine ⟨.t (.s (.int .u8 1)), fun β => by rw [and1_u8, h1], rfl, .t (.s (.int .u8 0)), fun β => by rw [and1_u8, h2], rfl, fun _ => ?_, fun h => absurd h (by decide)⟩
    refine ⟨trivial, fun h => absurd h (by decide), fun _ => ?_⟩
    refine ⟨(Mw, noK, 0, M1), ⟨rfl, rfl, rfl, rfl, ⟨runK_ok (hI _ (by decide)) (by decide) (hI _ (by decide)), hnI, hI _ (by decide), hI _ (by decide)⟩, by dsimp only; exact e1⟩, ?_⟩
    refine ⟨fun _ => ⟨M1, ⟨rfl, rfl, rfl, rfl, hI _ (by decide)⟩, ?_⟩, fun h => absurd h (by simp)⟩
    refine ⟨fun h => absurd h (by simp [c1, hz1]), fun _ => ?_⟩
    refine ⟨trivial, fun _ => ?_, fun h => absurd h (by decide)⟩
    refine ⟨(M1, ⟨0, 0, 0, 6, -2147483448, 1, true, false, false, false, -2147483348, -2147483648, -2147483348, -2147483648, -2147483648, -2147483648, 0, 0, 0, 0, false, 0, 0, 0, 0, 0, false, 0⟩, 0, M2), ⟨rfl, rfl, rfl, rfl, ⟨pass_ok noK_ok (hI _ (by decide)) (by decide) (hI _ (by decide)), hnI, hI _ (by decide), hI _ (by decide)⟩, by dsimp only; exact e2⟩, ?_⟩
    refine ⟨fun h => absurd h (by simp [hz3]), fun _ => ?_⟩
    refine ⟨fun _ => ⟨M2, ⟨rfl, rfl, rfl, rfl, hI _ (by decide)⟩, ?_⟩, fun h => absurd h (by decide)⟩
    refine ⟨fun _ => ⟨M2, ⟨rfl, rfl, rfl, rfl, hI _ (by decide)⟩, ?_⟩, fun h => absurd h (by simp [c4, hz2])⟩
    refine ⟨fun h => absurd h (by simp [c4, hz2, c3, NP]), fun _ => ?_⟩
    refine ⟨(M2, l), ⟨rfl, rfl, rfl, rfl, hI _ (by decide), hwl, by show l.length ≤ 1024; omega, fun _ => by rw [c2]; unfold spanBad ofAt; simp; omega, c5⟩, ?_⟩
    refine ⟨M2.l, ⟨rfl, rfl, rfl, rfl, M2.hi, by have := M2.lo; omega⟩, ?_⟩
    refine ⟨(l, l), ⟨rfl, rfl, rfl, by show n - 0 = l.length; omega, rfl, hlw, hlw⟩, fun h => absurd h (by simp), fun _ => ?_⟩
    show WpC _ _ _ _ _
    refine c_loop (α := Nat) (fun i => i ≤ 1024) (fun i => 1024 - i)
      (fun i => [(9, .t (.s (.loc 1 0)), none), (11, .t (.s (.sl 2 0 Mw.l.length Mw.l.length)), none), (14, .t (.s (.int .i32 (-2147483348))), none), (22, .t (.s (.sl 3 0 M2.l.length M2.l.length)), none), (179, .t (.s (.int .i64 (M2.l.length : Int))), none), (180, .t (.s (.int .i64 (i : Int))), none)])
      (fun _ => [.view (bytesI L), .blk 21 [.int .i32 (l.length : Int)], mOwn Mw.l, mOwn M2.l]) 0 (Nat.zero_le _) ?_ ?_
    · exact into [0, 2, 6, 14] ⟨⟨_, rfl, rfl⟩, ⟨_, rfl, rfl⟩, ⟨_, rfl, rfl⟩, ⟨_, rfl, rfl⟩, ⟨_, rfl, rfl⟩, ⟨_, rfl, rfl⟩, trivial⟩ ⟨_, rfl, rfl⟩ rfl rfl rfl rfl
    · intro i hi
      have hi : i ≤ 1024 := hi
      dsimp only
      refine c_run' tt_ok ctCa_ok k_l30_ChannelCarries [100185] 60 (by kernel_rfl) (by kernel_rfl) ?_
      refine ⟨fun h => ?_, fun h => ⟨trivial, ?_⟩⟩
      · have hi2 : i < 1024 := by have h' := of_decide_eq_true h; rw [c2] at h'; omega
        have hM2 : i < M2.l.length := by rw [c2]; exact hi2
        have hMw : i < Mw.l.length := by rw [hMl]; exact hi2
        refine ⟨.t (.s (.int .i32 (-2147483648 + (i : Int)))), fun β => by rw [ca_wi hi2], rfl, ?_⟩
        refine ⟨i, ⟨rfl, hM2, ca_row c2 hi2⟩, .int .u8 (M2.l.getD i 0), rfl, ca_cell c2 hi2, ?_⟩
        refine ⟨i, ⟨rfl, hMw, ca_row hMl hi2⟩, .int .u8 (Mw.l.getD i 0), rfl, ca_cell hMl hi2, ?_⟩
        refine ⟨fun h2 => ?_, fun h2 => ?_⟩
        · rw [ca_wt hl150] at h2
          exact (ca_same (w := -2147483348) hi2 c6 h2).elim
        · refine e_again (i + 1) (by show i + 1 ≤ 1024; omega) (by show 1024 - (i + 1) < 1024 - i; omega) (into [0, 1, 2, 3] ⟨⟨_, rfl, rfl⟩, ⟨_, rfl, rfl⟩, ⟨_, rfl, rfl⟩, ⟨_, rfl, rfl⟩, ⟨_, rfl, rfl⟩, ⟨_, rfl, fvi (wrapSucc (by omega))⟩, trivial⟩ ⟨_, rfl, rfl⟩ rfl rfl rfl rfl)
      · exact fin_k tt_ok (rs := rs_l30_ChannelCarries) rfl rfl hK [0] rfl rfl rfl rfl rfl rfl
  · obtain ⟨M1, M2, e1, e2, hC⟩ := carry_in true true hMs hl150
    replace e1 : inR (runK (-2147483348) 1 5) Mw l.length (-2147483548) (-2147483048) = (noK, 0, M1) := e1
    replace e2 : outR (noK.pass (-2147483448) 1 6) M1 l.length (-2147483548) (-2147483248) = (⟨0, 0, 0, 6, -2147483448, 1, true, false, false, false, -2147483648, -2147483348, -2147483648, -2147483348, -2147483648, -2147483648, 0, 0, 0, 0, false, 0, 0, 0, 0, 0, false, 0⟩, 0, M2) := e2
    obtain ⟨c1, c2, c3, c4, c5, c6⟩ := hC
    replace c1 : M1.word (-2147483548) = -2147483347 := c1
    have hz1 : IntKind.i32.wrap (-2147483348 + IntKind.i32.wrap (IntKind.i64.wrap 1)) = -2147483347 := by decide
    have hz2 : IntKind.i32.wrap (-2147483352) = -2147483352 := by decide
    have hz3 : IntKind.i64.wrap 1 = 1 := by decide
    replace c4 : M2.word (-2147483352) = 5 := c4
    refine ⟨.t (.s (.int .u8 1)), fun β => by rw [and1_u8, h1], rfl, .t (.s (.int .u8 1)), fun β => by rw [and1_u8, h2], rfl, fun _ => ?_, fun h => absurd h (by decide)⟩
    refine ⟨trivial, fun h => absurd h (by decide), fun _ => ?_⟩
    refine ⟨(Mw, noK, 0, M1), ⟨rfl, rfl, rfl, rfl, ⟨runK_ok (hI _ (by decide)) (by decide) (hI _ (by decide)), hnI, hI _ (by decide), hI _ (by decide)⟩, by dsimp only; exact e1⟩, ?_⟩
    refine ⟨fun _ => ⟨M1, ⟨rfl, rfl, rfl, rfl, hI _ (by decide)⟩, ?_⟩, fun h => absurd h (by simp)⟩
    refine ⟨fun h => absurd h (by simp [c1, hz1]), fun _ => ?_⟩
    refine ⟨trivial, fun _ => ?_, fun h => absurd h (by decide)⟩
    refine ⟨(M1, ⟨0, 0, 0, 6, -2147483448, 1, true, false, false, false, -2147483648, -2147483348, -2147483648, -2147483348, -2147483648, -2147483648, 0, 0, 0, 0, false, 0, 0, 0, 0, 0, false, 0⟩, 0, M2), ⟨rfl, rfl, rfl, rfl, ⟨pass_ok noK_ok (hI _ (by decide)) (by decide) (hI _ (by decide)), hnI, hI _ (by decide), hI _ (by decide)⟩, by dsimp only; exact e2⟩, ?_⟩
    refine ⟨fun h => absurd h (by simp [hz3]), fun _ => ?_⟩
    refine ⟨fun _ => ⟨M2, ⟨rfl, rfl, rfl, rfl, hI _ (by decide)⟩, ?_⟩, fun h => absurd h (by decide)⟩
    refine ⟨fun _ => ⟨M2, ⟨rfl, rfl, rfl, rfl, hI _ (by decide)⟩, ?_⟩, fun h => absurd h (by simp [c4, hz2])⟩
    refine ⟨fun h => absurd h (by simp [c4, hz2, c3, NP]), fun _ => ?_⟩
    refine ⟨(M2, l), ⟨rfl, rfl, rfl, rfl, hI _ (by decide), hwl, by show l.length ≤ 1024; omega, fun _ => by rw [c2]; unfold spanBad ofAt; simp; omega, c5⟩, ?_⟩
    refine ⟨M2.l, ⟨rfl, rfl, rfl, rfl, M2.hi, by have := M2.lo; omega⟩, ?_⟩
    refine ⟨(l, l), ⟨rfl, rfl, rfl, by show n - 0 = l.length; omega, rfl, hlw, hlw⟩, fun h => absurd h (by simp), fun _ => ?_⟩
    show WpC _ _ _ _ _
    refine c_loop (α := Nat) (fun i => i ≤ 1024) (fun i => 1024 - i)
      (fun i => [(9, .t (.s (.loc 1 0)), none), (11, .t (.s (.sl 2 0 Mw.l.length Mw.l.length)), none), (14, .t (.s (.int .i32 (-2147483348))), none), (22, .t (.s (.sl 3 0 M2.l.length M2.l.length)), none), (179, .t (.s (.int .i64 (M2.l.length : Int))), none), (180, .t (.s (.int .i64 (i : Int))), none)])
      (fun _ => [.view (bytesI L), .blk 21 [.int .i32 (l.length : Int)], mOwn Mw.l, mOwn M2.l]) 0 (Nat.zero_le _) ?_ ?_
    · exact into [0, 2, 6, 14] ⟨⟨_, rfl, rfl⟩, ⟨_, rfl, rfl⟩, ⟨_, rfl, rfl⟩, ⟨_, rfl, rfl⟩, ⟨_, rfl, rfl⟩, ⟨_, rfl, rfl⟩, trivial⟩ ⟨_, rfl, rfl⟩ rfl rfl rfl rfl
    · intro i hi
      have hi : i ≤ 1024 := hi
      dsimp only
      refine c_run' tt_ok ctCa_ok k_l30_ChannelCarries [100185] 60 (by kernel_rfl) (by kernel_rfl) ?_
      refine ⟨fun h => ?_, fun h => ⟨trivial, ?_⟩⟩
      · have hi2 : i < 1024 := by have h' := of_decide_eq_true h; rw [c2] at h'; omega
        have hM2 : i < M2.l.length := by rw [c2]; exact hi2
        have hMw : i < Mw.l.length := by rw [hMl]; exact hi2
        refine ⟨.t (.s (.int .i32 (-2147483648 + (i : Int)))), fun β => by rw [ca_wi hi2], rfl, ?_⟩
        refine ⟨i, ⟨rfl, hM2, ca_row c2 hi2⟩, .int .u8 (M2.l.getD i 0), rfl, ca_cell c2 hi2, ?_⟩
        refine ⟨i, ⟨rfl, hMw, ca_row hMl hi2⟩, .int .u8 (Mw.l.getD i 0), rfl, ca_cell hMl hi2, ?_⟩
        refine ⟨fun h2 => ?_, fun h2 => ?_⟩
        · rw [ca_wt hl150] at h2
          exact (ca_same (w := -2147483348) hi2 c6 h2).elim
        · refine e_again (i + 1) (by show i + 1 ≤ 1024; omega) (by show 1024 - (i + 1) < 1024 - i; omega) (into [0, 1, 2, 3] ⟨⟨_, rfl, rfl⟩, ⟨_, rfl, rfl⟩, ⟨_, rfl, rfl⟩, ⟨_, rfl, rfl⟩, ⟨_, rfl, rfl⟩, ⟨_, rfl, fvi (wrapSucc (by omega))⟩, trivial⟩ ⟨_, rfl, rfl⟩ rfl rfl rfl rfl)
      · exact fin_k tt_ok (rs := rs_l30_ChannelCarries) rfl rfl hK [0] rfl rfl rfl rfl rfl rfl
end Go.Proofs

namespace Go.Proofs
open Go Go.Sx
theorem ChannelCarries_b (L : List Int) (cap : Nat) (b : Bool) (pp pq : Int) (hL : ∀ x ∈ L, 0 ≤ x ∧ x < 256) (hc : L.length ≤ cap) (hm : cap ≤ maxLen) :
    Con Try.prog f_l30_ChannelCarries [.s (.sl 0 0 L.length cap), .s (.bool b), .s (.int .u8 pp), .s (.int .u8 pq)] [.view (bytesI L)] (.ret (.t (.s (.bool true))) [.view (bytesI L)]) := by
  cases b with
  | true => exact ChannelCarries_true L cap pp pq hL hc hm
  | false => exact ChannelCarries_false L cap pp pq hL hc hm
end Go.Proofs
