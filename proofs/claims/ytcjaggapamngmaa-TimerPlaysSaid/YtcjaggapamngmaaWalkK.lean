/- TimerPlays: changed, both (printed by g32V.py). -/
import Derived.Test.YtcjaggapamngmaaWalkJ
import Derived.Test.YtcjaggapamngmaaWalkA
import Derived.Test.YtcjaggapamngmaaWalkI
import Derived.Test.YtcjaggapamngmaaSxC

namespace Go.Proofs
open Go Go.Sx
set_option maxRecDepth 10000
theorem seg_b (m : Ram) : seg (bytesI m.l) 0 (m.l.length * 1) = bytesI m.l := by rw [Nat.mul_one]; exact seg_all m
theorem trmR_ok {k : Core} {m : Ram} {w p : Int} (h : k.ok) : (trmR k m w p).1.ok := by
  unfold trmR
  cases (!priB p)
  · rw [cond_false]
    unfold remR
    rcases remL queN m w NP (k.tm (p == 1)) with _ | _ | bef
    · exact zero_ok
    · exact zero_ok
    · exact lnkK_ok h _ _ (word_I32 _ _)
  · exact zero_ok
theorem tikQ_ok {p : Int} : ∀ (f : Nat) (k : Core) (m : Ram) (k' : Core) (m' : Ram), k.ok → tikQ f k m p = some (k', m') → k'.ok
  | 0, _, _, _, _, _, h => by cases h
  | f + 1, k, m, k', m', hk, h => by
    rw [tikQ] at h
    cases h1 : (k.tm (p == 1) == NP) <;> rw [h1] at h
    · cases h2 : (!validB m (k.tm (p == 1))) <;> rw [h2] at h
      · cases h3 : aftB (m.word (IntKind.i32.wrap (k.tm (p == 1) + -20))) (k.ck (p == 1)) <;> rw [h3] at h
        · cases h4 : (f == 0) <;> rw [h4] at h
          · simp only [cond_false] at h
            rcases hw : wakR k m p with _ | ⟨k2, m2⟩ <;> rw [hw] at h
            · cases h
            · exact tikQ_ok f k2 m2 k' m' (wakR_ok hk hw) h
          · cases h
        · cases h; exact hk
      · cases h
    · cases h; exact hk
theorem ttkR_ok {k : Core} {m : Ram} {k' : Core} {e' : Int} {m' : Ram} (h : k.ok) (hR : ttkR k m = (k', e', m')) : k'.ok ∧ (e' ≠ 0 → m' = m) := by
  unfold ttkR at hR
  cases hh : k.halted <;> rw [hh] at hR
  · rw [cond_false] at hR
    rcases hF : tikF 0 k.adv m with _ | ⟨k2, m2⟩ <;> rw [hF] at hR
    · have hR' : (Core.zero, (4 : Int), m) = (k', e', m') := hR
      cases hR'; exact ⟨zero_ok, fun _ => rfl⟩
    · have hR' : (k2, (0 : Int), m2) = (k', e', m') := hR
      cases hR'
      refine ⟨?_, fun he => absurd rfl he⟩
      have hF' : ((tikQ queN k.adv m 0).bind fun r => tikQ queN r.1 r.2 1) = some (k', m') := hF
      rcases h1 : tikQ queN k.adv m 0 with _ | ⟨k3, m3⟩ <;> rw [h1] at hF'
      · cases hF'
      · exact tikQ_ok queN k3 m3 k' m' (tikQ_ok queN k.adv m k3 m3 (adv_ok h) h1) hF'
  · cases hR; exact ⟨h, fun he => absurd rfl he⟩
theorem sleR_ok {k : Core} {m : Ram} {timed : Bool} {at' : Int} {k' : Core} {m' : Ram} (h : k.ok) (hS : sleR k m timed at' = some (k', m')) : k'.ok := by
  unfold sleR at hS
  cases timed
  · rw [cond_false] at hS
    have hS' : some (waitK k (m.set (IntKind.i32.wrap (k.wptr + -12)) (-2147483646)), waitM k (m.set (IntKind.i32.wrap (k.wptr + -12)) (-2147483646))) = some (k', m') := hS
    cases hS'; exact waitK_ok h
  · rw [cond_true] at hS
    rcases hI : insR k (m.set (IntKind.i32.wrap (k.wptr + -12)) (-2147483646)) k.wptr at' k.pri with _ | ⟨k2, m2⟩ <;> rw [hI] at hS
    · cases hS
    · have hS' : some (waitK k2 m2, waitM k2 m2) = some (k', m') := hS
      cases hS'; exact waitK_ok (insR_ok h h.wptr hI)
theorem abc_ok {k : Core} (h : k.ok) {a : Int} (ha : I32 a) : (k.abc a).ok :=
  { h with a := ha, b := (show I32 0 from ⟨by decide, by decide⟩), c := (show I32 0 from ⟨by decide, by decide⟩) }
theorem disR_ok {k : Core} {m : Ram} {k' : Core} {m' : Ram} (h : k.ok) (hS : disR k m = some (k', m')) : k'.ok := by
  have h0 : I32 0 := ⟨by decide, by decide⟩
  have h1 : I32 1 := ⟨by decide, by decide⟩
  unfold disR at hS
  cases hA : (bif k.b == 0 then true else m.word (IntKind.i32.wrap (k.wptr + -16)) == tNot) <;> rw [hA] at hS
  · rw [cond_false] at hS
    cases hB : (m.word (IntKind.i32.wrap (k.wptr + -16)) == tSet) <;> rw [hB] at hS
    · rw [cond_false] at hS
      unfold remR at hS
      rcases hr : remL queN m k.wptr NP (k.tm (k.pri == 1)) with _ | _ | bef <;> rw [hr] at hS
      · cases hS
      · cases hS; exact abc_ok h h0
      · cases hS; exact abc_ok (lnkK_ok h _ _ (word_I32 _ _)) h0
    · rw [cond_true] at hS
      cases hC : (bif aftB (m.word (IntKind.i32.wrap (k.wptr + -20))) k.c then m.word (IntKind.i32.wrap k.wptr) == -1 else false) <;> rw [hC] at hS
      · cases hS; exact abc_ok h h0
      · cases hS; exact abc_ok h h1
  · cases hS; exact abc_ok h h0
theorem talR_ok {k : Core} {m : Ram} {now : Int} {k' : Core} {m' : Ram} (h : k.ok) (hS : talR k m now = some (k', m')) : k'.ok := by
  unfold talR at hS
  cases hA : (bif (m.set (IntKind.i32.wrap k.wptr) (-1)).word (IntKind.i32.wrap (k.wptr + -12)) == -2147483645 then true
      else bif (m.set (IntKind.i32.wrap k.wptr) (-1)).word (IntKind.i32.wrap (k.wptr + -16)) == tSet then aftB now ((m.set (IntKind.i32.wrap k.wptr) (-1)).word (IntKind.i32.wrap (k.wptr + -20))) else false) <;> rw [hA] at hS
  · exact sleR_ok h hS
  · cases hS; exact h
theorem excR_ok {k : Core} {m : Ram} {n : Int} {k' : Core} {m' : Ram} (h : k.ok) (hS : excR k m n = some (k', m')) : k'.ok := by
  have h0 : I32 0 := ⟨by decide, by decide⟩
  have hck : ∀ o, I32 (k.ck o) := fun o => by cases o; exact h.k0; exact h.k1
  unfold excR at hS
  cases h1 : (n == 34) <;> rw [h1] at hS
  · cases h2 : (n == 84) <;> rw [h2] at hS
    · cases h3 : (!validB m k.wptr) <;> rw [h3] at hS
      · cases h4 : (n == 43) <;> rw [h4] at hS
        · cases h5 : (n == 78) <;> rw [h5] at hS
          · cases h6 : (n == 71) <;> rw [h6] at hS
            · cases h7 : (n == 81) <;> rw [h7] at hS
              · cases h8 : (n == 46) <;> rw [h8] at hS
                · cases hS; exact h
                · exact disR_ok h hS
              · exact talR_ok h hS
            · cases hS; exact { h with b := h.c }
          · cases hS; exact h
        · simp only [cond_false, cond_true] at hS
          cases h9 : (!aftB (k.ck (k.pri == 1)) k.a) <;> rw [h9] at hS
          · cases hS; exact h
          · exact sleR_ok h hS
      · cases hS
    · cases hS; exact { h with k0 := h.a, k1 := h.a, ticks := h0, a := h.b, b := h.c }
  · cases hS; exact { h with a := hck _, b := h.a, c := h.b }
theorem texR_ok {k : Core} {m : Ram} {f n : Int} (h : k.ok) : (texR k m f n).1.ok := by
  unfold texR
  cases (!priB k.pri)
  · cases (!mineT f n)
    · cases (!k.busy)
      · rw [cond_false, cond_false, cond_false]
        rcases hS : excR k m n with _ | ⟨k2, m2⟩
        · exact zero_ok
        · exact excR_ok h hS
      · exact zero_ok
    · exact zero_ok
  · exact zero_ok
theorem tqeR_len (k : Core) (m : Ram) (p : Int) : (tqeR k m p).1.length ≤ 1024 := by
  unfold tqeR
  cases (!priB p)
  · rw [cond_false, tquL_wlk]
    have := wlk_len (m := m) 1024 (k.tm (p == 1))
    rw [← show queN = 1024 + 1 from queN_eq] at this
    cases (wlk queN m (k.tm (p == 1))).2
    · exact Nat.zero_le _
    · show ([] ++ (wlk queN m (k.tm (p == 1))).1).length ≤ 1024
      simpa using this
  · exact Nat.zero_le _
theorem told_n {K : IntKind} {a b : Int} {β : Nat → Bd} (h : a = b) : (FV.t (.s (.int K b))).den β = (FV.t (.s (.int K a))).den β := by rw [h]
theorem Same_b (a b : List Int) (ca cb : Nat) : Con Try.prog f_r03_Same [.s (.sl 0 0 a.length ca), .s (.sl 1 0 b.length cb)] [.view (bytesI a), .view (bytesI b)] (.ret (.t (.s (.bool (sameB a b)))) [.view (bytesI a), .view (bytesI b)]) := by
  intro K hK
  refine enter fn_r03_Same rfl nt_r03_Same rfl rfl (fun φ w0 β0 F => ?_)
  refine c_run tt_ok (ct := []) trivial k_r03_Same [] 60 (by kernel_rfl) ?_
  refine ⟨a, ⟨by rw [seg_bytesI, List.drop_zero, List.take_of_length_le (by simp)]; rfl, rfl⟩, b, ⟨by rw [seg_bytesI, List.drop_zero, List.take_of_length_le (by simp)]; rfl, rfl⟩, ?_⟩
  exact fin_k tt_ok (rs := rs_r03_Same) rfl rfl hK [0, 1] rfl rfl rfl rfl rfl rfl
def rdBytes : List RA → (Prop → Prop) → (FV → Prop) → Option Prop
  | [.row xs n _, .row ys n' _], ask, k => some (∃ p : List Int × List Int, ask (xs = bytesI p.1 ∧ n = p.1.length ∧ ys = bytesI p.2 ∧ n' = p.2.length) ∧ k (.t (.s (.bool (sameB p.1 p.2)))))
  | _, _, _ => none
theorem re_bytes : REok Try.prog f_r03_Same rdBytes := ⟨cal_r03_Same, fun args ask k R h hR => by
  unfold rdBytes at h
  split at h
  · cases h
    obtain ⟨⟨A, B⟩, h1, h2⟩ := hR
    refine ⟨_, h2, rfl, fun hp => ?_⟩
    obtain ⟨e1, e2, e3, e4⟩ := hp _ h1
    dsimp only at e1 e2 e3 e4
    subst e1; subst e2; subst e3; subst e4
    exact ⟨fun β φ w hs => (((Same_b A B _ _) (fun v σ => v = .t (.s (.bool (sameB A B))) ∧ σ = [.view (bytesI A), .view (bytesI B)]) ⟨rfl, rfl⟩).h β φ w hs).mono fun _ _ ⟨x, β', ⟨q1, q2⟩, hr⟩ => by
      obtain ⟨v, σ⟩ := x
      dsimp only at q1 q2
      subst q1; subst q2
      exact ⟨(), β', trivial, hr⟩⟩
  · cases h⟩
set_option maxHeartbeats 1000000 in
theorem changed_c (k : Core) (a v : Int) (hok : k.ok) (_ha : I32 a) (hv : I32 v) : Con Try.prog f_l32_changed [.agg k.sv, .s (.int .i32 a), .s (.int .i32 v)] [] (.all Core (fun k' => k'.ok) fun k' => .ret (.t (.agg k'.sv)) []) := by
  intro K hK
  obtain ⟨z, hz, hz2⟩ : ∃ z : Int, (IntKind.u32.wrap v).tmod 2 = z ∧ (z = 0 ∨ z = 1) := by
    refine ⟨_, rfl, ?_⟩
    rw [IntKind.wrap_u32, Int.tmod_eq_emod_of_nonneg (by omega)]; omega
  have hv64 : IntKind.i64.wrap v = v := by unfold I32 at hv; exact wrap64 (by omega) (by omega)
  have hvp : -9223372036854775808 ≤ v ∧ v ≤ 9223372036854775807 := by unfold I32 at hv; omega
  refine enter fn_l32_changed rfl nt_l32_changed rfl rfl (fun φ w0 β0 F => ?_)
  refine c_run tt_ok (ct := []) trivial k_l32_changed [100059, 100067] 90 (by kernel_rfl) ?_
  have hp64 : -9223372036854775808 ≤ IntKind.i64.wrap v ∧ IntKind.i64.wrap v ≤ 9223372036854775807 := by rw [hv64]; exact hvp
  refine ⟨fun _ => ?_, fun _ => ?_⟩
  · exact fin_k tt_ok (rs := rs_l32_changed) rfl rfl (hK { k with a := v } (by constructor <;> first | exact hv | exact hp64 | exact hok.a | exact hok.b | exact hok.c | exact hok.iptr | exact hok.wptr | exact hok.pri | exact hok.f0 | exact hok.f1 | exact hok.b0 | exact hok.b1 | exact hok.t0 | exact hok.t1 | exact hok.k0 | exact hok.k1 | exact hok.ticks | exact hok.slice | exact hok.sa | exact hok.sb | exact hok.sc | exact hok.siptr | exact hok.swptr | exact hok.sslice)) [] rfl rfl rfl rfl rfl rfl
  refine ⟨fun _ => ?_, fun _ => ?_⟩
  · exact fin_k tt_ok (rs := rs_l32_changed) rfl rfl (hK { k with b := v } (by constructor <;> first | exact hv | exact hp64 | exact hok.a | exact hok.b | exact hok.c | exact hok.iptr | exact hok.wptr | exact hok.pri | exact hok.f0 | exact hok.f1 | exact hok.b0 | exact hok.b1 | exact hok.t0 | exact hok.t1 | exact hok.k0 | exact hok.k1 | exact hok.ticks | exact hok.slice | exact hok.sa | exact hok.sb | exact hok.sc | exact hok.siptr | exact hok.swptr | exact hok.sslice)) [] rfl rfl rfl rfl rfl rfl
  refine ⟨fun _ => ?_, fun _ => ?_⟩
  · exact fin_k tt_ok (rs := rs_l32_changed) rfl rfl (hK { k with c := v } (by constructor <;> first | exact hv | exact hp64 | exact hok.a | exact hok.b | exact hok.c | exact hok.iptr | exact hok.wptr | exact hok.pri | exact hok.f0 | exact hok.f1 | exact hok.b0 | exact hok.b1 | exact hok.t0 | exact hok.t1 | exact hok.k0 | exact hok.k1 | exact hok.ticks | exact hok.slice | exact hok.sa | exact hok.sb | exact hok.sc | exact hok.siptr | exact hok.swptr | exact hok.sslice)) [] rfl rfl rfl rfl rfl rfl
  refine ⟨fun _ => ?_, fun _ => ?_⟩
  · exact fin_k tt_ok (rs := rs_l32_changed) rfl rfl (hK { k with wptr := v } (by constructor <;> first | exact hv | exact hp64 | exact hok.a | exact hok.b | exact hok.c | exact hok.iptr | exact hok.wptr | exact hok.pri | exact hok.f0 | exact hok.f1 | exact hok.b0 | exact hok.b1 | exact hok.t0 | exact hok.t1 | exact hok.k0 | exact hok.k1 | exact hok.ticks | exact hok.slice | exact hok.sa | exact hok.sb | exact hok.sc | exact hok.siptr | exact hok.swptr | exact hok.sslice)) [] rfl rfl rfl rfl rfl rfl
  refine ⟨fun _ => ?_, fun _ => ?_⟩
  · exact fin_k tt_ok (rs := rs_l32_changed) rfl rfl (hK { k with pri := IntKind.i64.wrap v } (by constructor <;> first | exact hv | exact hp64 | exact hok.a | exact hok.b | exact hok.c | exact hok.iptr | exact hok.wptr | exact hok.pri | exact hok.f0 | exact hok.f1 | exact hok.b0 | exact hok.b1 | exact hok.t0 | exact hok.t1 | exact hok.k0 | exact hok.k1 | exact hok.ticks | exact hok.slice | exact hok.sa | exact hok.sb | exact hok.sc | exact hok.siptr | exact hok.swptr | exact hok.sslice)) [] rfl rfl rfl rfl rfl rfl
  refine ⟨fun _ => ?_, fun _ => ?_⟩
  · exact fin_k tt_ok (rs := rs_l32_changed) rfl rfl (hK { k with busy := v.tmod 2 == 0 } (by constructor <;> first | exact hv | exact hp64 | exact hok.a | exact hok.b | exact hok.c | exact hok.iptr | exact hok.wptr | exact hok.pri | exact hok.f0 | exact hok.f1 | exact hok.b0 | exact hok.b1 | exact hok.t0 | exact hok.t1 | exact hok.k0 | exact hok.k1 | exact hok.ticks | exact hok.slice | exact hok.sa | exact hok.sb | exact hok.sc | exact hok.siptr | exact hok.swptr | exact hok.sslice)) [] rfl rfl rfl rfl rfl rfl
  refine ⟨fun _ => ?_, fun _ => ?_⟩
  · exact fin_k tt_ok (rs := rs_l32_changed) rfl rfl (hK { k with k0 := v } (by constructor <;> first | exact hv | exact hp64 | exact hok.a | exact hok.b | exact hok.c | exact hok.iptr | exact hok.wptr | exact hok.pri | exact hok.f0 | exact hok.f1 | exact hok.b0 | exact hok.b1 | exact hok.t0 | exact hok.t1 | exact hok.k0 | exact hok.k1 | exact hok.ticks | exact hok.slice | exact hok.sa | exact hok.sb | exact hok.sc | exact hok.siptr | exact hok.swptr | exact hok.sslice)) [] rfl rfl rfl rfl rfl rfl
  refine ⟨fun _ => ?_, fun _ => ?_⟩
  · exact fin_k tt_ok (rs := rs_l32_changed) rfl rfl (hK { k with k1 := v } (by constructor <;> first | exact hv | exact hp64 | exact hok.a | exact hok.b | exact hok.c | exact hok.iptr | exact hok.wptr | exact hok.pri | exact hok.f0 | exact hok.f1 | exact hok.b0 | exact hok.b1 | exact hok.t0 | exact hok.t1 | exact hok.k0 | exact hok.k1 | exact hok.ticks | exact hok.slice | exact hok.sa | exact hok.sb | exact hok.sc | exact hok.siptr | exact hok.swptr | exact hok.sslice)) [] rfl rfl rfl rfl rfl rfl
  refine ⟨fun _ => ?_, fun _ => ?_⟩
  · exact fin_k tt_ok (rs := rs_l32_changed) rfl rfl (hK { k with ticks := v } (by constructor <;> first | exact hv | exact hp64 | exact hok.a | exact hok.b | exact hok.c | exact hok.iptr | exact hok.wptr | exact hok.pri | exact hok.f0 | exact hok.f1 | exact hok.b0 | exact hok.b1 | exact hok.t0 | exact hok.t1 | exact hok.k0 | exact hok.k1 | exact hok.ticks | exact hok.slice | exact hok.sa | exact hok.sb | exact hok.sc | exact hok.siptr | exact hok.swptr | exact hok.sslice)) [] rfl rfl rfl rfl rfl rfl
  refine ⟨fun _ => ?_, fun _ => ?_⟩
  · rcases hz2 with e | e
    · refine ⟨.t (.s (.int .u32 0)), fun β => told_n (hz.trans e), rfl, ?_⟩
      exact fin_k tt_ok (rs := rs_l32_changed) rfl rfl (hK { k with t0 := v } (by constructor <;> first | exact hv | exact hp64 | exact hok.a | exact hok.b | exact hok.c | exact hok.iptr | exact hok.wptr | exact hok.pri | exact hok.f0 | exact hok.f1 | exact hok.b0 | exact hok.b1 | exact hok.t0 | exact hok.t1 | exact hok.k0 | exact hok.k1 | exact hok.ticks | exact hok.slice | exact hok.sa | exact hok.sb | exact hok.sc | exact hok.siptr | exact hok.swptr | exact hok.sslice)) [] rfl rfl rfl rfl rfl rfl
    · refine ⟨.t (.s (.int .u32 1)), fun β => told_n (hz.trans e), rfl, ?_⟩
      exact fin_k tt_ok (rs := rs_l32_changed) rfl rfl (hK { k with t1 := v } (by constructor <;> first | exact hv | exact hp64 | exact hok.a | exact hok.b | exact hok.c | exact hok.iptr | exact hok.wptr | exact hok.pri | exact hok.f0 | exact hok.f1 | exact hok.b0 | exact hok.b1 | exact hok.t0 | exact hok.t1 | exact hok.k0 | exact hok.k1 | exact hok.ticks | exact hok.slice | exact hok.sa | exact hok.sb | exact hok.sc | exact hok.siptr | exact hok.swptr | exact hok.sslice)) [] rfl rfl rfl rfl rfl rfl
  refine ⟨fun _ => ?_, fun _ => ?_⟩
  · rcases hz2 with e | e
    · refine ⟨.t (.s (.int .u32 0)), fun β => told_n (hz.trans e), rfl, ?_⟩
      exact fin_k tt_ok (rs := rs_l32_changed) rfl rfl (hK { k with b0 := v } (by constructor <;> first | exact hv | exact hp64 | exact hok.a | exact hok.b | exact hok.c | exact hok.iptr | exact hok.wptr | exact hok.pri | exact hok.f0 | exact hok.f1 | exact hok.b0 | exact hok.b1 | exact hok.t0 | exact hok.t1 | exact hok.k0 | exact hok.k1 | exact hok.ticks | exact hok.slice | exact hok.sa | exact hok.sb | exact hok.sc | exact hok.siptr | exact hok.swptr | exact hok.sslice)) [] rfl rfl rfl rfl rfl rfl
    · refine ⟨.t (.s (.int .u32 1)), fun β => told_n (hz.trans e), rfl, ?_⟩
      exact fin_k tt_ok (rs := rs_l32_changed) rfl rfl (hK { k with b1 := v } (by constructor <;> first | exact hv | exact hp64 | exact hok.a | exact hok.b | exact hok.c | exact hok.iptr | exact hok.wptr | exact hok.pri | exact hok.f0 | exact hok.f1 | exact hok.b0 | exact hok.b1 | exact hok.t0 | exact hok.t1 | exact hok.k0 | exact hok.k1 | exact hok.ticks | exact hok.slice | exact hok.sa | exact hok.sb | exact hok.sc | exact hok.siptr | exact hok.swptr | exact hok.sslice)) [] rfl rfl rfl rfl rfl rfl
  exact fin_k tt_ok (rs := rs_l32_changed) rfl rfl (hK { k with halted := v.tmod 4 == 0 } (by constructor <;> first | exact hv | exact hp64 | exact hok.a | exact hok.b | exact hok.c | exact hok.iptr | exact hok.wptr | exact hok.pri | exact hok.f0 | exact hok.f1 | exact hok.b0 | exact hok.b1 | exact hok.t0 | exact hok.t1 | exact hok.k0 | exact hok.k1 | exact hok.ticks | exact hok.slice | exact hok.sa | exact hok.sb | exact hok.sc | exact hok.siptr | exact hok.swptr | exact hok.sslice)) [] rfl rfl rfl rfl rfl rfl
noncomputable abbrev eChanged : Ent := .st (conS (P := Try.prog) (f := f_l32_changed) fun cargs σ0 => match cargs, σ0 with
  | [.agg cs, .s (.int .i32 a), .s (.int .i32 v)], [] => withCore cs fun k hk => some ⟨.ask (k.ok ∧ I32 a ∧ I32 v) (.all Core (fun k' => k'.ok) fun k' => .ret (.t (.agg k'.sv)) []), fun K h => by
      obtain ⟨⟨h1, h2, h3⟩, h⟩ := h
      subst hk
      exact changed_c k a v h1 h2 h3 K h⟩
  | _, _ => none)
noncomputable abbrev ctBo : CT := [(f_timer_Insert, eInsert), (f_r32_Insert, eRInsert), (f_timer_Remove, eTRem), (f_r32_Remove, eRRemove), (f_timer_Tick, eTTick), (f_r32_Tick, eRTick), (f_timer_Exec, eTExec), (f_r32_Exec, eRExec), (f_mem_Mem_SetWord, eSetWordT), (f_r03_SetWord, eRSetWordT), (f_l32_changed, eChanged), (f_timer_Queue, eTQueue), (f_r32_Queue, eRtQueue), (f_r29_Same, .rd rdSame), (f_mem_Mem_Bytes, eBytes), (f_r03_Same, .rd rdBytes)]
theorem ctBo_ok : CTok Try.prog ctBo := ⟨con_ok cal_timer_Insert _, con_ok cal_r32_Insert _, con_ok cal_timer_Remove _, con_ok cal_r32_Remove _, con_ok cal_timer_Tick _, con_ok cal_r32_Tick _, con_ok cal_timer_Exec _, con_ok cal_r32_Exec _, con_ok cal_mem_Mem_SetWord _, con_ok cal_r03_SetWord _, con_ok cal_l32_changed _, con_ok cal_timer_Queue _, con_ok cal_r32_Queue _, re_same, con_ok cal_mem_Mem_Bytes _, re_bytes, trivial⟩
abbrev mBox2 (n : Nat) : Ch := .blk 33 [.sl 2 0 n n]
structure Pl where
  wh : Int
  at_ : Int
  v : Int
  pri : Int
  fn : Int
  n : Int
def Pl.sv (x : Pl) : List SV := [.int .u8 x.wh, .int .i32 x.at_, .int .i32 x.v, .int .i64 x.pri, .int .u8 x.fn, .int .i32 x.n]
structure Pl.good (x : Pl) : Prop where
  wh : 0 ≤ x.wh ∧ x.wh < 256
  at_ : I32 x.at_
  v : I32 x.v
  pri : -9223372036854775808 ≤ x.pri ∧ x.pri ≤ 9223372036854775807
abbrev BothO (m : Ram) : Out := .all (Core × Ram × Nat) (fun p => p.1.ok ∧ p.2.1.l.length ≤ p.2.2) fun p => .ret (.tup [.agg p.1.sv, .s (.sl 3 0 p.2.1.l.length p.2.2), .s (.bool true)]) [mBox2 p.2.1.l.length, .view (bytesI m.l), mOwn p.2.1.l, .view (bytesI p.2.1.l)]
set_option maxHeartbeats 2000000 in
theorem both_0 (k : Core) (m : Ram) (cap : Nat) (x : Pl) (hx : x.good) (hok : k.ok) (hc : m.l.length ≤ cap) (hw : x.wh.tmod 8 = 0) : Con Try.prog f_l32_both [.agg k.sv, .s (.loc 0 0), .s (.sl 1 0 m.l.length cap), .agg x.sv] [mBox2 m.l.length, .view (bytesI m.l), mOwn m.l] (BothO m) := by
  intro K hK
  refine enter fn_l32_both rfl nt_l32_both rfl rfl (fun φ w0 β0 F => ?_)
  refine c_run tt_ok ctBo_ok k_l32_both [] 90 (by kernel_rfl) ?_
  show WpC _ _ _ _ _
  refine c_merge [(1, .t (.s (.loc 0 0)), none), (2, .t (.s (.sl 1 0 m.l.length cap)), none), (4, .t (.s (.loc 3 0)), none), (7, .t (.s (.loc 4 0)), none), (8, .t (.s (.loc 5 0)), none), (11, .t (.s (.loc 6 0)), none), (12, .t (.s (.loc 7 0)), none), (13, .t (.s (.sl 1 0 m.l.length cap)), none)]
    [mBox2 m.l.length, .view (bytesI m.l), mOwn m.l, .blk 26 k.sv, .blk 30 x.sv, .blk 26 Core.zero.sv, .blk 26 k.sv, .blk 26 k.sv] (fun key => ?ways) ?cont
  case ways =>
    refine c_waysH tt_ok ctBo_ok k_l32_both [3] rfl rfl rfl ?_
    repeat' (first | exact trivial | exact ⟨rfl, trivial⟩ | (refine And.intro ?_ ?_))
    all_goals
      refine WpE.into ?_ key
      first
        | exact into [0, 1, 2, 3, 4, 5, 6, 7] ⟨⟨_, rfl, rfl⟩, ⟨_, rfl, rfl⟩, ⟨_, rfl, rfl⟩, ⟨_, rfl, rfl⟩, ⟨_, rfl, rfl⟩, ⟨_, rfl, rfl⟩, ⟨_, rfl, rfl⟩, ⟨_, rfl, rfl⟩, trivial⟩ ⟨_, rfl, rfl⟩ rfl rfl rfl rfl
        | exact into [0, 1, 2, 3, 4, 5, 7, 6] ⟨⟨_, rfl, rfl⟩, ⟨_, rfl, rfl⟩, ⟨_, rfl, rfl⟩, ⟨_, rfl, rfl⟩, ⟨_, rfl, rfl⟩, ⟨_, rfl, rfl⟩, ⟨_, rfl, rfl⟩, ⟨_, rfl, rfl⟩, trivial⟩ ⟨_, rfl, rfl⟩ rfl rfl rfl rfl
  refine e_run tt_ok ctBo_ok k_l32_both [100026, 100204, 100209, 100215] 90 (by kernel_rfl) ?_
  refine ⟨.t (.s (.int .u8 0)), fun β => told_n hw, rfl, ?_⟩
  refine ⟨fun _ => ?_, fun e => absurd e (by decide)⟩
  obtain ⟨⟨k', e', m'⟩, hR⟩ : ∃ r, tinR k m x.at_ x.v x.pri = r := ⟨_, rfl⟩
  have okk : k'.ok := tinR_ok hok hx.at_ hR
  refine ⟨(m, k', e', m'), ⟨rfl, rfl, rfl, rfl, ⟨hok, hx.at_, hx.pri⟩, hR⟩, ?_⟩
  refine ⟨(m, k', e', m'), ⟨rfl, rfl, ⟨hok, hx.at_, hc⟩, hR⟩, fun c1 hc1 => ?_⟩
  refine ⟨.t (.s (.bool false)), fun β => told_bl (by simp), rfl, ?_⟩
  refine ⟨.t (.s (.bool false)), fun β => told_bl (by simp), rfl, ?_⟩
  refine ⟨fun _ => ⟨m'.l, ⟨rfl, rfl, rfl, rfl, m'.hi, by have := m'.lo; omega⟩, ?_⟩, fun h => absurd h (by decide)⟩
  refine ⟨fun _ => ⟨(m'.l, m'.l), ⟨seg_b m', rfl, seg_b m', rfl⟩, ?_⟩, fun h => absurd h (by decide)⟩
  refine ⟨.t (.s (.bool false)), fun β => told_bl (by simp [sameB]), rfl, ?_⟩
  refine ⟨fun h => absurd h (by decide), fun _ => ⟨fun h6 => ?_, fun h6 => ?_⟩⟩
  · exact fin_k tt_ok (rs := rs_l32_both) rfl rfl (hK (k, m', c1) ⟨hok, hc1⟩) [0, 1, 2, 8] rfl rfl rfl rfl rfl rfl
  · exact fin_k tt_ok (rs := rs_l32_both) rfl rfl (hK (k', m', c1) ⟨okk, hc1⟩) [0, 1, 2, 8] rfl rfl rfl rfl rfl rfl
set_option maxHeartbeats 2000000 in
theorem both_1 (k : Core) (m : Ram) (cap : Nat) (x : Pl) (hx : x.good) (hok : k.ok) (hc : m.l.length ≤ cap) (hw : x.wh.tmod 8 = 1) : Con Try.prog f_l32_both [.agg k.sv, .s (.loc 0 0), .s (.sl 1 0 m.l.length cap), .agg x.sv] [mBox2 m.l.length, .view (bytesI m.l), mOwn m.l] (BothO m) := by
  intro K hK
  refine enter fn_l32_both rfl nt_l32_both rfl rfl (fun φ w0 β0 F => ?_)
  refine c_run tt_ok ctBo_ok k_l32_both [] 90 (by kernel_rfl) ?_
  show WpC _ _ _ _ _
  refine c_merge [(1, .t (.s (.loc 0 0)), none), (2, .t (.s (.sl 1 0 m.l.length cap)), none), (4, .t (.s (.loc 3 0)), none), (7, .t (.s (.loc 4 0)), none), (8, .t (.s (.loc 5 0)), none), (11, .t (.s (.loc 6 0)), none), (12, .t (.s (.loc 7 0)), none), (13, .t (.s (.sl 1 0 m.l.length cap)), none)]
    [mBox2 m.l.length, .view (bytesI m.l), mOwn m.l, .blk 26 k.sv, .blk 30 x.sv, .blk 26 Core.zero.sv, .blk 26 k.sv, .blk 26 k.sv] (fun key => ?ways) ?cont
  case ways =>
    refine c_waysH tt_ok ctBo_ok k_l32_both [3] rfl rfl rfl ?_
    repeat' (first | exact trivial | exact ⟨rfl, trivial⟩ | (refine And.intro ?_ ?_))
    all_goals
      refine WpE.into ?_ key
      first
        | exact into [0, 1, 2, 3, 4, 5, 6, 7] ⟨⟨_, rfl, rfl⟩, ⟨_, rfl, rfl⟩, ⟨_, rfl, rfl⟩, ⟨_, rfl, rfl⟩, ⟨_, rfl, rfl⟩, ⟨_, rfl, rfl⟩, ⟨_, rfl, rfl⟩, ⟨_, rfl, rfl⟩, trivial⟩ ⟨_, rfl, rfl⟩ rfl rfl rfl rfl
        | exact into [0, 1, 2, 3, 4, 5, 7, 6] ⟨⟨_, rfl, rfl⟩, ⟨_, rfl, rfl⟩, ⟨_, rfl, rfl⟩, ⟨_, rfl, rfl⟩, ⟨_, rfl, rfl⟩, ⟨_, rfl, rfl⟩, ⟨_, rfl, rfl⟩, ⟨_, rfl, rfl⟩, trivial⟩ ⟨_, rfl, rfl⟩ rfl rfl rfl rfl
  refine e_run tt_ok ctBo_ok k_l32_both [100026, 100204, 100209, 100215] 90 (by kernel_rfl) ?_
  refine ⟨.t (.s (.int .u8 1)), fun β => told_n hw, rfl, ?_⟩
  refine ⟨fun e => absurd e (by decide), fun _ => ?_⟩
  refine ⟨fun _ => ?_, fun e => absurd e (by decide)⟩
  obtain ⟨⟨k', e', m'⟩, hR⟩ : ∃ r, trmR k m x.at_ x.pri = r := ⟨_, rfl⟩
  have okk : k'.ok := by have := trmR_ok (m := m) (w := x.at_) (p := x.pri) hok; rw [hR] at this; exact this
  refine ⟨(m, k', e', m'), ⟨rfl, rfl, rfl, rfl, ⟨hok, hx.pri⟩, hR⟩, ?_⟩
  refine ⟨(m, k', e', m'), ⟨rfl, rfl, ⟨hok, hc⟩, hR⟩, fun c1 hc1 => ?_⟩
  refine ⟨.t (.s (.bool false)), fun β => told_bl (by simp), rfl, ?_⟩
  refine ⟨.t (.s (.bool false)), fun β => told_bl (by simp), rfl, ?_⟩
  refine ⟨fun _ => ⟨m'.l, ⟨rfl, rfl, rfl, rfl, m'.hi, by have := m'.lo; omega⟩, ?_⟩, fun h => absurd h (by decide)⟩
  refine ⟨fun _ => ⟨(m'.l, m'.l), ⟨seg_b m', rfl, seg_b m', rfl⟩, ?_⟩, fun h => absurd h (by decide)⟩
  refine ⟨.t (.s (.bool false)), fun β => told_bl (by simp [sameB]), rfl, ?_⟩
  refine ⟨fun h => absurd h (by decide), fun _ => ⟨fun h6 => ?_, fun h6 => ?_⟩⟩
  · exact fin_k tt_ok (rs := rs_l32_both) rfl rfl (hK (k, m', c1) ⟨hok, hc1⟩) [0, 1, 2, 8] rfl rfl rfl rfl rfl rfl
  · exact fin_k tt_ok (rs := rs_l32_both) rfl rfl (hK (k', m', c1) ⟨okk, hc1⟩) [0, 1, 2, 8] rfl rfl rfl rfl rfl rfl
set_option maxHeartbeats 2000000 in
theorem both_2 (k : Core) (m : Ram) (cap : Nat) (x : Pl) (_hx : x.good) (hok : k.ok) (hc : m.l.length ≤ cap) (hw : x.wh.tmod 8 = 2) : Con Try.prog f_l32_both [.agg k.sv, .s (.loc 0 0), .s (.sl 1 0 m.l.length cap), .agg x.sv] [mBox2 m.l.length, .view (bytesI m.l), mOwn m.l] (BothO m) := by
  intro K hK
  refine enter fn_l32_both rfl nt_l32_both rfl rfl (fun φ w0 β0 F => ?_)
  refine c_run tt_ok ctBo_ok k_l32_both [] 90 (by kernel_rfl) ?_
  show WpC _ _ _ _ _
  refine c_merge [(1, .t (.s (.loc 0 0)), none), (2, .t (.s (.sl 1 0 m.l.length cap)), none), (4, .t (.s (.loc 3 0)), none), (7, .t (.s (.loc 4 0)), none), (8, .t (.s (.loc 5 0)), none), (11, .t (.s (.loc 6 0)), none), (12, .t (.s (.loc 7 0)), none), (13, .t (.s (.sl 1 0 m.l.length cap)), none)]
    [mBox2 m.l.length, .view (bytesI m.l), mOwn m.l, .blk 26 k.sv, .blk 30 x.sv, .blk 26 Core.zero.sv, .blk 26 k.sv, .blk 26 k.sv] (fun key => ?ways) ?cont
  case ways =>
    refine c_waysH tt_ok ctBo_ok k_l32_both [3] rfl rfl rfl ?_
    repeat' (first | exact trivial | exact ⟨rfl, trivial⟩ | (refine And.intro ?_ ?_))
    all_goals
      refine WpE.into ?_ key
      first
        | exact into [0, 1, 2, 3, 4, 5, 6, 7] ⟨⟨_, rfl, rfl⟩, ⟨_, rfl, rfl⟩, ⟨_, rfl, rfl⟩, ⟨_, rfl, rfl⟩, ⟨_, rfl, rfl⟩, ⟨_, rfl, rfl⟩, ⟨_, rfl, rfl⟩, ⟨_, rfl, rfl⟩, trivial⟩ ⟨_, rfl, rfl⟩ rfl rfl rfl rfl
        | exact into [0, 1, 2, 3, 4, 5, 7, 6] ⟨⟨_, rfl, rfl⟩, ⟨_, rfl, rfl⟩, ⟨_, rfl, rfl⟩, ⟨_, rfl, rfl⟩, ⟨_, rfl, rfl⟩, ⟨_, rfl, rfl⟩, ⟨_, rfl, rfl⟩, ⟨_, rfl, rfl⟩, trivial⟩ ⟨_, rfl, rfl⟩ rfl rfl rfl rfl
  refine e_run tt_ok ctBo_ok k_l32_both [100026, 100204, 100209, 100215] 90 (by kernel_rfl) ?_
  refine ⟨.t (.s (.int .u8 2)), fun β => told_n hw, rfl, ?_⟩
  refine ⟨fun e => absurd e (by decide), fun _ => ?_⟩
  refine ⟨fun e => absurd e (by decide), fun _ => ?_⟩
  refine ⟨fun _ => ?_, fun e => absurd e (by decide)⟩
  obtain ⟨⟨k', e', m'⟩, hR⟩ : ∃ r, ttkR k m = r := ⟨_, rfl⟩
  have okk : k'.ok := (ttkR_ok hok hR).1
  refine ⟨(m, k', e', m'), ⟨rfl, rfl, rfl, rfl, hok, hR⟩, ?_⟩
  refine ⟨(m, k', e', m'), ⟨rfl, rfl, ⟨hok, hc⟩, hR⟩, fun c1 hc1 => ?_⟩
  refine ⟨.t (.s (.bool false)), fun β => told_bl (by simp), rfl, ?_⟩
  refine ⟨.t (.s (.bool false)), fun β => told_bl (by simp), rfl, ?_⟩
  refine ⟨fun _ => ⟨m'.l, ⟨rfl, rfl, rfl, rfl, m'.hi, by have := m'.lo; omega⟩, ?_⟩, fun h => absurd h (by decide)⟩
  refine ⟨fun _ => ⟨(m'.l, m'.l), ⟨seg_b m', rfl, seg_b m', rfl⟩, ?_⟩, fun h => absurd h (by decide)⟩
  refine ⟨.t (.s (.bool false)), fun β => told_bl (by simp [sameB]), rfl, ?_⟩
  refine ⟨fun h => absurd h (by decide), fun _ => ⟨fun h6 => ?_, fun h6 => ?_⟩⟩
  · exact fin_k tt_ok (rs := rs_l32_both) rfl rfl (hK (k, m', c1) ⟨hok, hc1⟩) [0, 1, 2, 8] rfl rfl rfl rfl rfl rfl
  · exact fin_k tt_ok (rs := rs_l32_both) rfl rfl (hK (k', m', c1) ⟨okk, hc1⟩) [0, 1, 2, 8] rfl rfl rfl rfl rfl rfl
set_option maxHeartbeats 2000000 in
theorem both_3 (k : Core) (m : Ram) (cap : Nat) (x : Pl) (_hx : x.good) (hok : k.ok) (hc : m.l.length ≤ cap) (hw : x.wh.tmod 8 = 3) : Con Try.prog f_l32_both [.agg k.sv, .s (.loc 0 0), .s (.sl 1 0 m.l.length cap), .agg x.sv] [mBox2 m.l.length, .view (bytesI m.l), mOwn m.l] (BothO m) := by
  intro K hK
  refine enter fn_l32_both rfl nt_l32_both rfl rfl (fun φ w0 β0 F => ?_)
  refine c_run tt_ok ctBo_ok k_l32_both [] 90 (by kernel_rfl) ?_
  show WpC _ _ _ _ _
  refine c_merge [(1, .t (.s (.loc 0 0)), none), (2, .t (.s (.sl 1 0 m.l.length cap)), none), (4, .t (.s (.loc 3 0)), none), (7, .t (.s (.loc 4 0)), none), (8, .t (.s (.loc 5 0)), none), (11, .t (.s (.loc 6 0)), none), (12, .t (.s (.loc 7 0)), none), (13, .t (.s (.sl 1 0 m.l.length cap)), none)]
    [mBox2 m.l.length, .view (bytesI m.l), mOwn m.l, .blk 26 k.sv, .blk 30 x.sv, .blk 26 Core.zero.sv, .blk 26 k.sv, .blk 26 k.sv] (fun key => ?ways) ?cont
  case ways =>
    refine c_waysH tt_ok ctBo_ok k_l32_both [3] rfl rfl rfl ?_
    repeat' (first | exact trivial | exact ⟨rfl, trivial⟩ | (refine And.intro ?_ ?_))
    all_goals
      refine WpE.into ?_ key
      first
        | exact into [0, 1, 2, 3, 4, 5, 6, 7] ⟨⟨_, rfl, rfl⟩, ⟨_, rfl, rfl⟩, ⟨_, rfl, rfl⟩, ⟨_, rfl, rfl⟩, ⟨_, rfl, rfl⟩, ⟨_, rfl, rfl⟩, ⟨_, rfl, rfl⟩, ⟨_, rfl, rfl⟩, trivial⟩ ⟨_, rfl, rfl⟩ rfl rfl rfl rfl
        | exact into [0, 1, 2, 3, 4, 5, 7, 6] ⟨⟨_, rfl, rfl⟩, ⟨_, rfl, rfl⟩, ⟨_, rfl, rfl⟩, ⟨_, rfl, rfl⟩, ⟨_, rfl, rfl⟩, ⟨_, rfl, rfl⟩, ⟨_, rfl, rfl⟩, ⟨_, rfl, rfl⟩, trivial⟩ ⟨_, rfl, rfl⟩ rfl rfl rfl rfl
  refine e_run tt_ok ctBo_ok k_l32_both [100026, 100204, 100209, 100215] 90 (by kernel_rfl) ?_
  refine ⟨.t (.s (.int .u8 3)), fun β => told_n hw, rfl, ?_⟩
  refine ⟨fun e => absurd e (by decide), fun _ => ?_⟩
  refine ⟨fun e => absurd e (by decide), fun _ => ?_⟩
  refine ⟨fun e => absurd e (by decide), fun _ => ?_⟩
  refine ⟨fun _ => ?_, fun e => absurd e (by decide)⟩
  obtain ⟨⟨k', e', m'⟩, hR⟩ : ∃ r, texR k m x.fn x.n = r := ⟨_, rfl⟩
  have okk : k'.ok := by have := texR_ok (m := m) (f := x.fn) (n := x.n) hok; rw [hR] at this; exact this
  refine ⟨(m, k', e', m'), ⟨rfl, rfl, rfl, rfl, hok, hR⟩, ?_⟩
  refine ⟨(m, k', e', m'), ⟨rfl, rfl, ⟨hok, hc⟩, hR⟩, fun c1 hc1 => ?_⟩
  refine ⟨.t (.s (.bool false)), fun β => told_bl (by simp), rfl, ?_⟩
  refine ⟨.t (.s (.bool false)), fun β => told_bl (by simp), rfl, ?_⟩
  refine ⟨fun _ => ⟨m'.l, ⟨rfl, rfl, rfl, rfl, m'.hi, by have := m'.lo; omega⟩, ?_⟩, fun h => absurd h (by decide)⟩
  refine ⟨fun _ => ⟨(m'.l, m'.l), ⟨seg_b m', rfl, seg_b m', rfl⟩, ?_⟩, fun h => absurd h (by decide)⟩
  refine ⟨.t (.s (.bool false)), fun β => told_bl (by simp [sameB]), rfl, ?_⟩
  refine ⟨fun h => absurd h (by decide), fun _ => ⟨fun h6 => ?_, fun h6 => ?_⟩⟩
  · exact fin_k tt_ok (rs := rs_l32_both) rfl rfl (hK (k, m', c1) ⟨hok, hc1⟩) [0, 1, 2, 8] rfl rfl rfl rfl rfl rfl
  · exact fin_k tt_ok (rs := rs_l32_both) rfl rfl (hK (k', m', c1) ⟨okk, hc1⟩) [0, 1, 2, 8] rfl rfl rfl rfl rfl rfl
set_option maxHeartbeats 2000000 in
theorem both_4 (k : Core) (m : Ram) (cap : Nat) (x : Pl) (hx : x.good) (hok : k.ok) (hc : m.l.length ≤ cap) (hw : x.wh.tmod 8 = 4) : Con Try.prog f_l32_both [.agg k.sv, .s (.loc 0 0), .s (.sl 1 0 m.l.length cap), .agg x.sv] [mBox2 m.l.length, .view (bytesI m.l), mOwn m.l] (BothO m) := by
  intro K hK
  refine enter fn_l32_both rfl nt_l32_both rfl rfl (fun φ w0 β0 F => ?_)
  refine c_run tt_ok ctBo_ok k_l32_both [] 90 (by kernel_rfl) ?_
  show WpC _ _ _ _ _
  refine c_merge [(1, .t (.s (.loc 0 0)), none), (2, .t (.s (.sl 1 0 m.l.length cap)), none), (4, .t (.s (.loc 3 0)), none), (7, .t (.s (.loc 4 0)), none), (8, .t (.s (.loc 5 0)), none), (11, .t (.s (.loc 6 0)), none), (12, .t (.s (.loc 7 0)), none), (13, .t (.s (.sl 1 0 m.l.length cap)), none)]
    [mBox2 m.l.length, .view (bytesI m.l), mOwn m.l, .blk 26 k.sv, .blk 30 x.sv, .blk 26 Core.zero.sv, .blk 26 k.sv, .blk 26 k.sv] (fun key => ?ways) ?cont
  case ways =>
    refine c_waysH tt_ok ctBo_ok k_l32_both [3] rfl rfl rfl ?_
    repeat' (first | exact trivial | exact ⟨rfl, trivial⟩ | (refine And.intro ?_ ?_))
    all_goals
      refine WpE.into ?_ key
      first
        | exact into [0, 1, 2, 3, 4, 5, 6, 7] ⟨⟨_, rfl, rfl⟩, ⟨_, rfl, rfl⟩, ⟨_, rfl, rfl⟩, ⟨_, rfl, rfl⟩, ⟨_, rfl, rfl⟩, ⟨_, rfl, rfl⟩, ⟨_, rfl, rfl⟩, ⟨_, rfl, rfl⟩, trivial⟩ ⟨_, rfl, rfl⟩ rfl rfl rfl rfl
        | exact into [0, 1, 2, 3, 4, 5, 7, 6] ⟨⟨_, rfl, rfl⟩, ⟨_, rfl, rfl⟩, ⟨_, rfl, rfl⟩, ⟨_, rfl, rfl⟩, ⟨_, rfl, rfl⟩, ⟨_, rfl, rfl⟩, ⟨_, rfl, rfl⟩, ⟨_, rfl, rfl⟩, trivial⟩ ⟨_, rfl, rfl⟩ rfl rfl rfl rfl
  refine e_run tt_ok ctBo_ok k_l32_both [100026, 100204, 100209, 100215] 90 (by kernel_rfl) ?_
  refine ⟨.t (.s (.int .u8 4)), fun β => told_n hw, rfl, ?_⟩
  refine ⟨fun e => absurd e (by decide), fun _ => ?_⟩
  refine ⟨fun e => absurd e (by decide), fun _ => ?_⟩
  refine ⟨fun e => absurd e (by decide), fun _ => ?_⟩
  refine ⟨fun e => absurd e (by decide), fun _ => ?_⟩
  refine ⟨fun _ => ?_, fun e => absurd e (by decide)⟩
  obtain ⟨m', hm'⟩ : ∃ m', m.set x.at_ x.v = m' := ⟨_, rfl⟩
  have hml : m'.l.length = m.l.length := by rw [← hm']; exact set_len _ _ _
  refine ⟨m, ⟨rfl, rfl, rfl, rfl, hx.at_⟩, ?_⟩
  refine ⟨m, ⟨rfl, rfl, hx.at_, hc⟩, fun c1 hc1 => ?_⟩
  rw [hm']
  refine ⟨.t (.s (.bool false)), fun β => told_bl (by simp), rfl, ?_⟩
  refine ⟨.t (.s (.bool false)), fun β => told_bl (by simp), rfl, ?_⟩
  refine ⟨fun _ => ⟨m'.l, ⟨rfl, rfl, rfl, rfl, m'.hi, by have := m'.lo; omega⟩, ?_⟩, fun h => absurd h (by decide)⟩
  refine ⟨fun _ => ⟨(m'.l, m'.l), ⟨seg_b m', rfl, seg_b m', rfl⟩, ?_⟩, fun h => absurd h (by decide)⟩
  refine ⟨.t (.s (.bool false)), fun β => told_bl (by simp [sameB]), rfl, ?_⟩
  refine ⟨fun h => absurd h (by decide), fun _ => ⟨fun h6 => ?_, fun h6 => ?_⟩⟩
  · exact fin_k tt_ok (rs := rs_l32_both) rfl rfl (hK (k, m', c1) ⟨hok, (by rw [hml]; exact hc1)⟩) [0, 1, 2, 8] rfl rfl rfl rfl rfl rfl
  · exact fin_k tt_ok (rs := rs_l32_both) rfl rfl (hK (k, m', c1) ⟨hok, (by rw [hml]; exact hc1)⟩) [0, 1, 2, 8] rfl rfl rfl rfl rfl rfl
set_option maxHeartbeats 2000000 in
theorem both_5 (k : Core) (m : Ram) (cap : Nat) (x : Pl) (hx : x.good) (hok : k.ok) (hc : m.l.length ≤ cap) (hw : x.wh.tmod 8 = 5) : Con Try.prog f_l32_both [.agg k.sv, .s (.loc 0 0), .s (.sl 1 0 m.l.length cap), .agg x.sv] [mBox2 m.l.length, .view (bytesI m.l), mOwn m.l] (BothO m) := by
  intro K hK
  refine enter fn_l32_both rfl nt_l32_both rfl rfl (fun φ w0 β0 F => ?_)
  refine c_run tt_ok ctBo_ok k_l32_both [] 90 (by kernel_rfl) ?_
  show WpC _ _ _ _ _
  refine c_merge [(1, .t (.s (.loc 0 0)), none), (2, .t (.s (.sl 1 0 m.l.length cap)), none), (4, .t (.s (.loc 3 0)), none), (7, .t (.s (.loc 4 0)), none), (8, .t (.s (.loc 5 0)), none), (11, .t (.s (.loc 6 0)), none), (12, .t (.s (.loc 7 0)), none), (13, .t (.s (.sl 1 0 m.l.length cap)), none)]
    [mBox2 m.l.length, .view (bytesI m.l), mOwn m.l, .blk 26 k.sv, .blk 30 x.sv, .blk 26 Core.zero.sv, .blk 26 k.sv, .blk 26 k.sv] (fun key => ?ways) ?cont
  case ways =>
    refine c_waysH tt_ok ctBo_ok k_l32_both [3] rfl rfl rfl ?_
    repeat' (first | exact trivial | exact ⟨rfl, trivial⟩ | (refine And.intro ?_ ?_))
    all_goals
      refine WpE.into ?_ key
      first
        | exact into [0, 1, 2, 3, 4, 5, 6, 7] ⟨⟨_, rfl, rfl⟩, ⟨_, rfl, rfl⟩, ⟨_, rfl, rfl⟩, ⟨_, rfl, rfl⟩, ⟨_, rfl, rfl⟩, ⟨_, rfl, rfl⟩, ⟨_, rfl, rfl⟩, ⟨_, rfl, rfl⟩, trivial⟩ ⟨_, rfl, rfl⟩ rfl rfl rfl rfl
        | exact into [0, 1, 2, 3, 4, 5, 7, 6] ⟨⟨_, rfl, rfl⟩, ⟨_, rfl, rfl⟩, ⟨_, rfl, rfl⟩, ⟨_, rfl, rfl⟩, ⟨_, rfl, rfl⟩, ⟨_, rfl, rfl⟩, ⟨_, rfl, rfl⟩, ⟨_, rfl, rfl⟩, trivial⟩ ⟨_, rfl, rfl⟩ rfl rfl rfl rfl
  refine e_run tt_ok ctBo_ok k_l32_both [100026, 100204, 100209, 100215] 90 (by kernel_rfl) ?_
  refine ⟨.t (.s (.int .u8 5)), fun β => told_n hw, rfl, ?_⟩
  refine ⟨fun e => absurd e (by decide), fun _ => ?_⟩
  refine ⟨fun e => absurd e (by decide), fun _ => ?_⟩
  refine ⟨fun e => absurd e (by decide), fun _ => ?_⟩
  refine ⟨fun e => absurd e (by decide), fun _ => ?_⟩
  refine ⟨fun e => absurd e (by decide), fun _ => ?_⟩
  refine ⟨fun _ => ?_, fun e => absurd e (by decide)⟩
  refine ⟨⟨hok, hx.at_, hx.v⟩, fun k' okk => ?_⟩
  refine ⟨.t (.s (.bool false)), fun β => told_bl (by simp), rfl, ?_⟩
  refine ⟨.t (.s (.bool false)), fun β => told_bl (by simp), rfl, ?_⟩
  refine ⟨fun _ => ⟨m.l, ⟨rfl, rfl, rfl, rfl, m.hi, by have := m.lo; omega⟩, ?_⟩, fun h => absurd h (by decide)⟩
  refine ⟨fun _ => ⟨(m.l, m.l), ⟨seg_b m, rfl, seg_b m, rfl⟩, ?_⟩, fun h => absurd h (by decide)⟩
  refine ⟨.t (.s (.bool false)), fun β => told_bl (by simp [sameB]), rfl, ?_⟩
  refine ⟨fun h => absurd h (by decide), fun _ => ⟨fun h => absurd (show ((0 : Int) != 0) = true from h) (by decide), fun _ => ?_⟩⟩
  refine WpE.into (aliasSlot 9 1 0 m.l.length cap rfl rfl) ?_
  refine fin_k tt_ok (rs := rs_l32_both) rfl rfl (hK (k', m, cap) ⟨okk, hc⟩) [0, 1, 2, 9] rfl ?_ rfl rfl rfl rfl
  rw [seg_all]; rfl
set_option maxHeartbeats 2000000 in
theorem both_6 (k : Core) (m : Ram) (cap : Nat) (x : Pl) (hx : x.good) (hok : k.ok) (hc : m.l.length ≤ cap) (hw : x.wh.tmod 8 = 6) : Con Try.prog f_l32_both [.agg k.sv, .s (.loc 0 0), .s (.sl 1 0 m.l.length cap), .agg x.sv] [mBox2 m.l.length, .view (bytesI m.l), mOwn m.l] (BothO m) := by
  intro K hK
  refine enter fn_l32_both rfl nt_l32_both rfl rfl (fun φ w0 β0 F => ?_)
  refine c_run tt_ok ctBo_ok k_l32_both [] 90 (by kernel_rfl) ?_
  show WpC _ _ _ _ _
  refine c_merge [(1, .t (.s (.loc 0 0)), none), (2, .t (.s (.sl 1 0 m.l.length cap)), none), (4, .t (.s (.loc 3 0)), none), (7, .t (.s (.loc 4 0)), none), (8, .t (.s (.loc 5 0)), none), (11, .t (.s (.loc 6 0)), none), (12, .t (.s (.loc 7 0)), none), (13, .t (.s (.sl 1 0 m.l.length cap)), none)]
    [mBox2 m.l.length, .view (bytesI m.l), mOwn m.l, .blk 26 k.sv, .blk 30 x.sv, .blk 26 Core.zero.sv, .blk 26 k.sv, .blk 26 k.sv] (fun key => ?ways) ?cont
  case ways =>
    refine c_waysH tt_ok ctBo_ok k_l32_both [3] rfl rfl rfl ?_
    repeat' (first | exact trivial | exact ⟨rfl, trivial⟩ | (refine And.intro ?_ ?_))
    all_goals
      refine WpE.into ?_ key
      first
        | exact into [0, 1, 2, 3, 4, 5, 6, 7] ⟨⟨_, rfl, rfl⟩, ⟨_, rfl, rfl⟩, ⟨_, rfl, rfl⟩, ⟨_, rfl, rfl⟩, ⟨_, rfl, rfl⟩, ⟨_, rfl, rfl⟩, ⟨_, rfl, rfl⟩, ⟨_, rfl, rfl⟩, trivial⟩ ⟨_, rfl, rfl⟩ rfl rfl rfl rfl
        | exact into [0, 1, 2, 3, 4, 5, 7, 6] ⟨⟨_, rfl, rfl⟩, ⟨_, rfl, rfl⟩, ⟨_, rfl, rfl⟩, ⟨_, rfl, rfl⟩, ⟨_, rfl, rfl⟩, ⟨_, rfl, rfl⟩, ⟨_, rfl, rfl⟩, ⟨_, rfl, rfl⟩, trivial⟩ ⟨_, rfl, rfl⟩ rfl rfl rfl rfl
  refine e_run tt_ok ctBo_ok k_l32_both [100026, 100204, 100209, 100215, 100198] 90 (by kernel_rfl) ?_
  refine ⟨.t (.s (.int .u8 6)), fun β => told_n hw, rfl, ?_⟩
  refine ⟨fun e => absurd e (by decide), fun _ => ?_⟩
  refine ⟨fun e => absurd e (by decide), fun _ => ?_⟩
  refine ⟨fun e => absurd e (by decide), fun _ => ?_⟩
  refine ⟨fun e => absurd e (by decide), fun _ => ?_⟩
  refine ⟨fun e => absurd e (by decide), fun _ => ?_⟩
  refine ⟨fun e => absurd e (by decide), fun _ => ?_⟩
  refine ⟨fun _ => ?_, fun e => absurd e (by decide)⟩
  obtain ⟨⟨L, e⟩, hR⟩ : ∃ r, tqeR k m x.pri = r := ⟨_, rfl⟩
  have hseg : ∀ n, n = L.length → seg (qV L) 0 (n * 1) = qV L := fun n hn => by rw [hn, Nat.mul_one, ← qV_len]; simp [seg]
  refine ⟨(m, L, e), ⟨rfl, rfl, rfl, rfl, ⟨hok, hx.pri⟩, hR⟩, fun c1 hc1 => ?_⟩
  refine ⟨(m, L, e), ⟨rfl, rfl, hok, hR⟩, fun c2 hc2 => ?_⟩
  refine ⟨(L, L), ⟨hseg _ rfl, rfl, hseg _ rfl, rfl, ?_⟩, ?_⟩
  · have := tqeR_len k m x.pri; rw [hR] at this; dsimp only at this ⊢; omega
  refine ⟨.t (.s (.bool false)), fun β => told_bl (by simp), rfl, ?_⟩
  refine ⟨fun h => absurd h (by decide), fun _ => ?_⟩
  refine ⟨.t (.s (.bool false)), fun β => told_bl (by simp), rfl, ?_⟩
  refine ⟨.t (.s (.bool false)), fun β => told_bl (by simp), rfl, ?_⟩
  refine ⟨fun _ => ⟨m.l, ⟨rfl, rfl, rfl, rfl, m.hi, by have := m.lo; omega⟩, ?_⟩, fun h => absurd h (by decide)⟩
  refine ⟨fun _ => ⟨(m.l, m.l), ⟨seg_b m, rfl, seg_b m, rfl⟩, ?_⟩, fun h => absurd h (by decide)⟩
  refine ⟨.t (.s (.bool false)), fun β => told_bl (by simp [sameB]), rfl, ?_⟩
  refine ⟨fun h => absurd h (by decide), fun _ => ⟨fun h => absurd (show ((0 : Int) != 0) = true from h) (by decide), fun _ => ?_⟩⟩
  refine WpE.into (aliasSlot 9 1 0 m.l.length cap rfl rfl) ?_
  refine fin_k tt_ok (rs := rs_l32_both) rfl rfl (hK (k, m, cap) ⟨hok, hc⟩) [0, 1, 2, 11] rfl ?_ rfl rfl rfl rfl
  rw [seg_all]; rfl
end Go.Proofs

namespace Go.Proofs
open Go Go.Sx
set_option maxRecDepth 10000
set_option maxHeartbeats 4000000 in
theorem both_7 (k : Core) (m : Ram) (cap : Nat) (x : Pl) (_hx : x.good) (hok : k.ok) (hc : m.l.length ≤ cap) (hw : x.wh.tmod 8 = 7) : Con Try.prog f_l32_both [.agg k.sv, .s (.loc 0 0), .s (.sl 1 0 m.l.length cap), .agg x.sv] [mBox2 m.l.length, .view (bytesI m.l), mOwn m.l] (BothO m) := by
  intro K hK
  refine enter fn_l32_both rfl nt_l32_both rfl rfl (fun φ w0 β0 F => ?_)
  refine c_run tt_ok ctBo_ok k_l32_both [] 90 (by kernel_rfl) ?_
  show WpC _ _ _ _ _
  refine c_merge [(1, .t (.s (.loc 0 0)), none), (2, .t (.s (.sl 1 0 m.l.length cap)), none), (4, .t (.s (.loc 3 0)), none), (7, .t (.s (.loc 4 0)), none), (8, .t (.s (.loc 5 0)), none), (11, .t (.s (.loc 6 0)), none), (12, .t (.s (.loc 7 0)), none), (13, .t (.s (.sl 1 0 m.l.length cap)), none)]
    [mBox2 m.l.length, .view (bytesI m.l), mOwn m.l, .blk 26 k.sv, .blk 30 x.sv, .blk 26 Core.zero.sv, .blk 26 k.sv, .blk 26 k.sv] (fun key => ?ways) ?cont
  case ways =>
    refine c_waysH tt_ok ctBo_ok k_l32_both [3] rfl rfl rfl ?_
    repeat' (first | exact trivial | exact ⟨rfl, trivial⟩ | (refine And.intro ?_ ?_))
    all_goals
      refine WpE.into ?_ key
      first
        | exact into [0, 1, 2, 3, 4, 5, 6, 7] ⟨⟨_, rfl, rfl⟩, ⟨_, rfl, rfl⟩, ⟨_, rfl, rfl⟩, ⟨_, rfl, rfl⟩, ⟨_, rfl, rfl⟩, ⟨_, rfl, rfl⟩, ⟨_, rfl, rfl⟩, ⟨_, rfl, rfl⟩, trivial⟩ ⟨_, rfl, rfl⟩ rfl rfl rfl rfl
        | exact into [0, 1, 2, 3, 4, 5, 7, 6] ⟨⟨_, rfl, rfl⟩, ⟨_, rfl, rfl⟩, ⟨_, rfl, rfl⟩, ⟨_, rfl, rfl⟩, ⟨_, rfl, rfl⟩, ⟨_, rfl, rfl⟩, ⟨_, rfl, rfl⟩, ⟨_, rfl, rfl⟩, trivial⟩ ⟨_, rfl, rfl⟩ rfl rfl rfl rfl
  refine e_run tt_ok ctBo_ok k_l32_both [100026] 90 (by kernel_rfl) ?_
  refine ⟨.t (.s (.int .u8 7)), fun β => told_n hw, rfl, ?_⟩
  refine ⟨fun e => absurd e (by decide), fun _ => ?_⟩
  refine ⟨fun e => absurd e (by decide), fun _ => ?_⟩
  refine ⟨fun e => absurd e (by decide), fun _ => ?_⟩
  refine ⟨fun e => absurd e (by decide), fun _ => ?_⟩
  refine ⟨fun e => absurd e (by decide), fun _ => ?_⟩
  refine ⟨fun e => absurd e (by decide), fun _ => ?_⟩
  refine ⟨fun e => absurd e (by decide), fun _ => ?_⟩
  show WpC _ _ _ _ _
  refine WpC.into (aliasSlot 2 1 0 m.l.length cap rfl rfl) ?_
  refine WpC.into (aliasSlot 13 1 0 m.l.length cap rfl rfl) ?_
  refine c_loop (α := Nat × Core × Core × Ram × Nat × Nat × Int) (fun x => x.1 ≤ 60 ∧ x.2.1.ok ∧ x.2.2.1.ok ∧ x.2.2.2.1.l.length ≤ x.2.2.2.2.1 ∧ x.2.2.2.1.l.length ≤ x.2.2.2.2.2.1 ∧ (x.2.2.2.2.2.2 = 0 → x.2.2.1 = x.2.1)) (fun x => 60 - x.1)
    (fun y => [(1, .t (.s (.loc 0 0)), none), (2, .t (.s (.sl 8 0 y.2.2.2.1.l.length y.2.2.2.2.1)), none), (4, .t (.s (.loc 3 0)), none), (7, .t (.s (.loc 4 0)), none), (8, .t (.s (.loc 5 0)), none), (11, .t (.s (.loc 6 0)), none), (12, .t (.s (.loc 7 0)), none), (13, .t (.s (.sl 9 0 y.2.2.2.1.l.length y.2.2.2.2.2.1)), none), (14, .t (.s (.int .i64 y.2.2.2.2.2.2)), none), (15, .t (.s (.int .i64 y.2.2.2.2.2.2)), none), (20, .t (.s (.int .i64 (y.1 : Int))), none)])
    (fun y => [mBox2 y.2.2.2.1.l.length, .view (bytesI m.l), mOwn y.2.2.2.1.l, .blk 26 y.2.1.sv, .blk 30 x.sv, .blk 26 Core.zero.sv, .blk 26 y.2.2.1.sv, .blk 26 y.2.2.1.sv, .view (bytesI y.2.2.2.1.l), .view (bytesI y.2.2.2.1.l)]) (0, k, k, m, cap, cap, 0) ⟨Nat.zero_le _, hok, hok, hc, hc, fun _ => rfl⟩ ?_ ?_
  · refine into [0, 1, 2, 3, 4, 5, 6, 7, 8, 9] ⟨⟨_, rfl, rfl⟩, ⟨_, rfl, rfl⟩, ⟨_, rfl, rfl⟩, ⟨_, rfl, rfl⟩, ⟨_, rfl, rfl⟩, ⟨_, rfl, rfl⟩, ⟨_, rfl, rfl⟩, ⟨_, rfl, rfl⟩, ⟨_, rfl, rfl⟩, ⟨_, rfl, rfl⟩, ⟨_, rfl, rfl⟩, trivial⟩ ⟨_, rfl, ?_⟩ rfl rfl rfl rfl
    dsimp only
    rw [seg_all]; rfl
  rintro ⟨i, kc, kn, mm, cb, ca, e⟩ ⟨hi, hkc, hkn, hcb, hca, he⟩
  simp only at hi hkc hkn hcb hca he
  dsimp only
  refine c_run' tt_ok ctBo_ok k_l32_both [100036, 100058, 100204, 100209, 100215] 90 (by kernel_rfl) (by kernel_rfl) ?_
  rcases hB : (bif bif decide ((i : Int) < 60) then e == 0 else false then e == 0 else false) with _ | _
  · refine ⟨.t (.s (.bool false)), fun β => told_bl hB, rfl, ?_⟩
    refine ⟨fun h => absurd h (by decide), fun _ => ?_⟩
    refine ⟨.t (.s (.bool false)), fun β => told_bl (by simp), rfl, ?_⟩
    refine ⟨.t (.s (.bool false)), fun β => told_bl (by simp), rfl, ?_⟩
    refine ⟨fun _ => ⟨mm.l, ⟨rfl, rfl, rfl, rfl, mm.hi, by have := mm.lo; omega⟩, ?_⟩, fun h => absurd h (by decide)⟩
    refine ⟨fun _ => ⟨(mm.l, mm.l), ⟨seg_b mm, rfl, seg_b mm, rfl⟩, ?_⟩, fun h => absurd h (by decide)⟩
    refine ⟨.t (.s (.bool false)), fun β => told_bl (by simp [sameB]), rfl, ?_⟩
    refine ⟨fun h => absurd h (by decide), fun _ => ⟨fun h6 => ?_, fun h6 => ?_⟩⟩
    · exact fin_k tt_ok (rs := rs_l32_both) rfl rfl (hK (kc, mm, ca) ⟨hkc, hca⟩) [0, 1, 2, 9] rfl rfl rfl rfl rfl rfl
    · exact fin_k tt_ok (rs := rs_l32_both) rfl rfl (hK (kn, mm, ca) ⟨hkn, hca⟩) [0, 1, 2, 9] rfl rfl rfl rfl rfl rfl
  · have hi60 : i < 60 := by
      by_cases hh : (i : Int) < 60
      · omega
      · rw [decide_eq_false hh] at hB; cases hB
    have he0 : e = 0 := by
      cases hh : (e == 0)
      · rw [hh] at hB; cases hz : decide ((i : Int) < 60) <;> rw [hz] at hB <;> cases hB
      · simpa using hh
    refine ⟨.t (.s (.bool true)), fun β => told_tr hB, rfl, ?_⟩
    refine ⟨fun _ => ?_, fun h => absurd h (by decide)⟩
    obtain ⟨⟨k', e', m'⟩, hR⟩ : ∃ r, ttkR kc mm = r := ⟨_, rfl⟩
    obtain ⟨okk, hem⟩ := ttkR_ok hkc hR
    refine ⟨(mm, k', e', m'), ⟨rfl, rfl, rfl, rfl, hkc, hR⟩, ?_⟩
    refine ⟨(mm, k', e', m'), ⟨rfl, rfl, ⟨hkc, hcb⟩, hR⟩, fun d hd => ?_⟩
    rcases he' : (e' == 0) with _ | _
    · have hne : e' ≠ 0 := by simpa using he'
      have hmm := hem hne
      subst hmm
      refine ⟨.t (.s (.bool false)), fun β => told_bl (by show (bif e' == 0 then _ else false) = false; rw [he']; rfl), rfl, ?_⟩
      refine ⟨fun h => absurd h (by decide), fun _ => ?_⟩
      exact e_again (i + 1, kc, k', m', cb, d, e') ⟨hi60, hkc, okk, hcb, hd, fun h => absurd h hne⟩ (by dsimp only; omega) (into [0, 1, 2, 3, 4, 5, 6, 7, 8, 10] ⟨⟨_, rfl, rfl⟩, ⟨_, rfl, rfl⟩, ⟨_, rfl, rfl⟩, ⟨_, rfl, rfl⟩, ⟨_, rfl, rfl⟩, ⟨_, rfl, rfl⟩, ⟨_, rfl, rfl⟩, ⟨_, rfl, rfl⟩, ⟨_, rfl, rfl⟩, ⟨_, rfl, rfl⟩, ⟨_, rfl, fvi (wrapSucc (by omega))⟩, trivial⟩ ⟨_, rfl, rfl⟩ rfl rfl rfl rfl)
    · have hz : e' = 0 := by simpa using he'
      subst hz
      refine ⟨.t (.s (.bool true)), fun β => told_tr (by simp), rfl, ?_⟩
      refine ⟨fun _ => ?_, fun h => absurd h (by decide)⟩
      refine WpE.into (aliasSlot 13 10 0 m'.l.length d rfl rfl) ?_
      refine e_again (i + 1, k', k', m', d, d, 0) ⟨hi60, okk, okk, hd, hd, fun _ => rfl⟩ (by dsimp only; omega) (into [0, 1, 2, 3, 4, 5, 6, 7, 10, 11] ⟨⟨_, rfl, rfl⟩, ⟨_, rfl, rfl⟩, ⟨_, rfl, rfl⟩, ⟨_, rfl, rfl⟩, ⟨_, rfl, rfl⟩, ⟨_, rfl, rfl⟩, ⟨_, rfl, rfl⟩, ⟨_, rfl, rfl⟩, ⟨_, rfl, rfl⟩, ⟨_, rfl, rfl⟩, ⟨_, rfl, fvi (wrapSucc (by omega))⟩, trivial⟩ ⟨_, rfl, ?_⟩ rfl rfl rfl rfl)
      dsimp only
      rw [seg_all]; rfl
theorem both_c (k : Core) (m : Ram) (cap : Nat) (x : Pl) (hx : x.good) (hok : k.ok) (hc : m.l.length ≤ cap) : Con Try.prog f_l32_both [.agg k.sv, .s (.loc 0 0), .s (.sl 1 0 m.l.length cap), .agg x.sv] [mBox2 m.l.length, .view (bytesI m.l), mOwn m.l] (BothO m) := by
  have hw := hx.wh
  have h9 : x.wh.tmod 8 = x.wh % 8 := Int.tmod_eq_emod_of_nonneg hw.1
  have hr : x.wh % 8 = 0 ∨ x.wh % 8 = 1 ∨ x.wh % 8 = 2 ∨ x.wh % 8 = 3 ∨ x.wh % 8 = 4 ∨ x.wh % 8 = 5 ∨ x.wh % 8 = 6 ∨ x.wh % 8 = 7 := by omega
  rw [← h9] at hr
  rcases hr with h | h | h | h | h | h | h | h
  · exact both_0 k m cap x hx hok hc h
  · exact both_1 k m cap x hx hok hc h
  · exact both_2 k m cap x hx hok hc h
  · exact both_3 k m cap x hx hok hc h
  · exact both_4 k m cap x hx hok hc h
  · exact both_5 k m cap x hx hok hc h
  · exact both_6 k m cap x hx hok hc h
  · exact both_7 k m cap x hx hok hc h
noncomputable abbrev eBoth : Ent := .st (conS (P := Try.prog) (f := f_l32_both) fun cargs σ0 => match cargs, σ0 with
  | [.agg cs, .s (.loc 0 0), .s (.sl 1 0 n cap), .agg [.int .u8 a1, .int .i32 a2, .int .i32 a3, .int .i64 a4, .int .u8 a5, .int .i32 a6]], [.blk 33 [.sl 2 0 n1 n2], .view ys, .own 5 1 c xs] => withCore cs fun k hk => some ⟨.ex Ram fun m => .ask (n = m.l.length ∧ n1 = m.l.length ∧ n2 = m.l.length ∧ c = m.l.length ∧ ys = bytesI m.l ∧ xs = bytesI m.l ∧ (k.ok ∧ m.l.length ≤ cap ∧ (⟨a1, a2, a3, a4, a5, a6⟩ : Pl).good)) (BothO m), fun K h => by
      obtain ⟨m, ⟨e1, e2, e3, e4, e5, e6, h1, h2, h3⟩, h⟩ := h
      subst e1; subst e2; subst e3; subst e4; subst e5; subst e6; subst hk
      exact both_c k m cap ⟨a1, a2, a3, a4, a5, a6⟩ h3 h1 h2 K h⟩
  | _, _ => none)

end Go.Proofs

namespace Go.Proofs
open Go Go.Sx
set_option maxRecDepth 10000
theorem mayM_ram' {l : List Int} (h : mayM l.length = true) (hb : ∀ b ∈ l, 0 ≤ b ∧ b < 256) : ∃ m : Ram, l = m.l := by
  obtain ⟨n, e, hn1, hn2⟩ := mayM_nat h
  exact ⟨⟨l, by omega, by omega, mayM_mod h, hb⟩, rfl⟩
theorem From_v (l : List Int) (cap : Nat) : Con Try.prog f_mem_From [.s (.sl 0 0 l.length cap)] [.view (bytesI l)] (.br (mayM l.length)
    (.ret (.tup [.s (.loc 1 0), .s (.int .i64 0)]) [.view (bytesI l), .blk 33 [.sl 2 0 l.length l.length], mOwn l])
    (.ret (.tup [.s (.raw (.pointer none)), .s (.int .i64 2)]) [.view (bytesI l)])) := by
  intro K ⟨hK1, hK2⟩
  refine enter fn_mem_From rfl nt_mem_From rfl rfl (fun φ w0 β0 F => ?_)
  refine c_run tt_ok ctM_ok k_mem_From [] 60 (by kernel_rfl) ?_
  refine ⟨fun h => ?_, fun h => ?_⟩
  · have hb : mayM l.length = false := by simpa using h
    exact fin_k tt_ok (rs := rs_mem_From) rfl rfl (hK2 hb) [0] rfl rfl rfl rfl rfl rfl
  · have hb : mayM l.length = true := by simpa using h
    obtain ⟨k, e, h1, h2⟩ := mayM_nat hb
    refine ⟨l.length, ⟨rfl, rfl, by simp only [maxLen]; omega, by omega⟩, ?_⟩
    refine ⟨l.length, ⟨by simp, by simp, by simp, by rw [seg_bytesI]; exact bytesI_one _⟩, ?_⟩
    refine fin_k tt_ok (rs := rs_mem_From) rfl rfl (hK1 hb) [0, 2, 1] rfl ?_ rfl rfl rfl rfl
    show pickL [Ch.view (bytesI l), Ch.own 5 1 l.length (setV (List.replicate l.length (Value.int .u8 0)) 0 (seg (bytesI l) 0 l.length)), Ch.blk 33 [SV.sl 1 0 l.length l.length]] [0, 2, 1] = _
    rw [copy_all l _ (by simp)]; rfl
noncomputable abbrev eFromV : Ent := .st (conS (P := Try.prog) (f := f_mem_From) fun cargs σ0 => match cargs, σ0 with
  | [.s (.sl 0 0 n cap)], [.view xs] => some ⟨.ex (List Int) fun l => .ask (xs = bytesI l ∧ n = l.length)
      (.br (mayM l.length) (.ret (.tup [.s (.loc 1 0), .s (.int .i64 0)]) [.view (bytesI l), .blk 33 [.sl 2 0 l.length l.length], mOwn l])
        (.ret (.tup [.s (.raw (.pointer none)), .s (.int .i64 2)]) [.view (bytesI l)])), fun K h => by
      obtain ⟨l, ⟨e1, e2⟩, h⟩ := h
      subst e1; subst e2
      exact From_v l _ K h⟩
  | _, _ => none)
def Pl.vs (x : Pl) : List Value := [.int .u8 x.wh, .int .i32 x.at_, .int .i32 x.v, .int .i64 x.pri, .int .u8 x.fn, .int .i32 x.n]
theorem pl_len (x : Pl) : x.vs.length = 6 := rfl
def plV (l : List Pl) : List Value := (l.map Pl.vs).flatten
theorem c_mergeA {α : Type} (p : α → Prop) {X : Cx} {c : Code} {Q : Exit → Act → World → Prop} {fr : Fr} {σ : List Ch} (fr' : α → Fr) (σ' : α → List Ch) (ways : (∀ x, p x → WpE X Q .normal (fr' x) (σ' x)) → WpC X c Q fr σ) (cont : ∀ x, p x → WpE X Q .normal (fr' x) (σ' x)) : WpC X c Q fr σ := ways cont
theorem seg_sub {xs : List Value} {off a b n : Nat} (h : a + b ≤ n) : seg xs (off + a) b = seg (seg xs off n) a b := by
  unfold seg
  apply List.ext_getElem?
  intro j
  by_cases hj : j < b
  · rw [List.getElem?_take_of_lt hj, List.getElem?_take_of_lt hj, List.getElem?_drop, List.getElem?_drop, List.getElem?_take_of_lt (by omega), List.getElem?_drop]
    congr 1; omega
  · rw [List.getElem?_take, List.getElem?_take, if_neg hj, if_neg hj]
noncomputable abbrev ctPl : CT := [(f_l32_head, eHead), (f_mem_From, eFromV), (f_l32_both, eBoth), (f_timer_Mine, .pure spMineT), (f_r32_Mine, .pure spMineT)]
theorem ctPl_ok : CTok Try.prog ctPl := ⟨con_ok cal_l32_head _, con_ok cal_mem_From _, con_ok cal_l32_both _, ceMineT, ceRMine, trivial⟩
set_option maxHeartbeats 4000000 in
theorem TimerPlays_c (k : Core) (l : List Int) (capb : Nat) (D : List Pl) (cap : Nat) (hok : k.ok) (hb : ∀ b ∈ l, 0 ≤ b ∧ b < 256) (hcb : l.length ≤ capb) (hD : ∀ d ∈ D, d.good) (_hcap : D.length ≤ cap) (hm : cap ≤ maxLen) :
    Con Try.prog f_l32_TimerPlays [.agg k.sv, .s (.sl 0 0 l.length capb), .s (.sl 1 0 D.length cap)] [.view (bytesI l), .view (plV D)] (.ret (.t (.s (.bool true))) [.view (bytesI l), .view (plV D)]) := by
  intro K hK
  have hm' : cap ≤ 9223372036854775807 := hm
  refine enter fn_l32_TimerPlays rfl nt_l32_TimerPlays rfl rfl (fun φ w0 β0 F => ?_)
  obtain ⟨big, hbig⟩ : ∃ b, (bif decide ((l.length : Int) > 2048) then true else decide ((D.length : Int) > 30)) = b := ⟨_, rfl⟩
  refine c_run tt_ok ctPl_ok k_l32_TimerPlays [100018] 90 (by kernel_rfl) ?_
  refine ⟨.t (.s (.bool big)), fun β => told_bl hbig, rfl, ?_⟩
  refine ⟨fun h1 => ?_, fun h1 => ?_⟩
  · exact fin_k tt_ok (rs := rs_l32_TimerPlays) rfl rfl hK [0, 1] rfl rfl rfl rfl rfl rfl
  rw [h1] at hbig
  have hlen : D.length ≤ 30 := by
    by_cases hq : (D.length : Int) > 30
    · rw [show decide ((D.length : Int) > 30) = true by simpa using hq] at hbig
      cases hz : decide ((l.length : Int) > 2048) <;> rw [hz] at hbig <;> simp at hbig
    · omega
  refine ⟨l, ⟨rfl, rfl⟩, fun h2 => ?_, fun h2 => ?_⟩
  rotate_left
  · refine ⟨fun _ => ?_, fun h => absurd (show ((2 : Int) != 0) = false from h) (by decide)⟩
    exact fin_k tt_ok (rs := rs_l32_TimerPlays) rfl rfl hK [0, 1] rfl rfl rfl rfl rfl rfl
  refine ⟨fun h => absurd (show ((0 : Int) != 0) = true from h) (by decide), fun _ => ?_⟩
  obtain ⟨m, hml⟩ := mayM_ram' h2 hb
  show WpC _ _ _ _ _
  refine WpC.into (aliasSlot 1 0 0 l.length capb rfl rfl) ?_
  refine c_loop (α := Nat × Core × Ram × Nat) (fun x => x.1 ≤ D.length ∧ x.2.1.ok ∧ x.2.2.1.l.length ≤ x.2.2.2) (fun x => D.length - x.1)
    (fun x => [(1, .t (.s (.sl 5 0 x.2.2.1.l.length x.2.2.2)), none), (2, .t (.s (.sl 1 0 D.length cap)), none), (3, .t (.s (.loc 2 0)), none), (7, .t (.s (.loc 3 0)), none), (10, .t (.s (.int .i64 (x.1 : Int))), none)])
    (fun x => [.view (bytesI l), .view (plV D), .blk 26 x.2.1.sv, .blk 33 [.sl 4 0 x.2.2.1.l.length x.2.2.1.l.length], mOwn x.2.2.1.l, .view (bytesI x.2.2.1.l)]) (0, k, m, capb) ⟨Nat.zero_le _, hok, by rw [← hml]; exact hcb⟩ ?_ ?_
  · refine into [0, 1, 2, 3, 4, 5] ⟨⟨_, rfl, by dsimp only; rw [← hml]; rfl⟩, ⟨_, rfl, rfl⟩, ⟨_, rfl, rfl⟩, ⟨_, rfl, rfl⟩, ⟨_, rfl, rfl⟩, trivial⟩ ⟨_, rfl, ?_⟩ rfl rfl rfl rfl
    dsimp only
    rw [← hml, show seg (bytesI l) 0 l.length = bytesI l by rw [hml]; exact seg_all m]; rfl
  rintro ⟨i, k, m, cb⟩ ⟨hi, hok, hcb⟩
  simp only at hi hok hcb
  dsimp only
  refine c_run' tt_ok ctPl_ok k_l32_TimerPlays [] 90 (by kernel_rfl) (by kernel_rfl) ?_
  refine ⟨fun h3 => ?_, fun h3 => ?_⟩
  rotate_left
  · exact fin_k tt_ok (rs := rs_l32_TimerPlays) rfl rfl hK [0, 1] rfl rfl rfl rfl rfl rfl
  have hlt : i < D.length := by have := of_decide_eq_true h3; omega
  obtain ⟨d, hd⟩ : ∃ d, D[i]? = some d := ⟨_, List.getElem?_eq_getElem hlt⟩
  have hg := hD d (List.mem_of_getElem? hd)
  have hbd := tab_bound pl_len (l := D) hlt
  have hrow := tab_row pl_len hd
  have hrow2 : seg (plV D) (0 + i * 6 + 4) 2 = [SV.int .u8 d.fn, SV.int .i32 d.n].map SV.cv := by
    have e : seg (plV D) (0 + i * 6 + 4) 2 = seg (seg (plV D) (0 + i * 6) 6) 4 2 := seg_sub (by decide)
    rw [e, show seg (plV D) (0 + i * 6) 6 = d.vs from hrow]; rfl
  show WpC _ _ _ _ _
  refine c_mergeA (α := Core × Ram × Nat) (fun p => p.1.ok ∧ p.2.1.l.length ≤ p.2.2)
    (fun p => [(1, .t (.s (.sl 5 0 p.2.1.l.length p.2.2)), none), (2, .t (.s (.sl 1 0 D.length cap)), none), (3, .t (.s (.loc 2 0)), none), (7, .t (.s (.loc 3 0)), none), (9, .t (.s (.bool true)), none), (10, .t (.s (.int .i64 (i : Int))), none)])
    (fun p => [.view (bytesI l), .view (plV D), .blk 26 p.1.sv, .blk 33 [.sl 4 0 p.2.1.l.length p.2.1.l.length], mOwn p.2.1.l, .view (bytesI p.2.1.l)]) (fun key => ?ways) ?cont
  case ways =>
    refine c_waysH tt_ok ctPl_ok k_l32_TimerPlays [1] rfl rfl rfl ?_
    repeat' (first | exact trivial | exact ⟨rfl, trivial⟩ | (refine Exists.intro i ?_; refine And.intro ⟨rfl, hlt, hbd⟩ ?_) | (refine Exists.intro d.sv ?_; refine And.intro rfl ?_; refine And.intro ⟨Nat.le_refl 6, hrow⟩ ?_) | (refine Exists.intro m ?_; refine And.intro ⟨rfl, rfl, rfl, rfl, rfl, rfl, ⟨hok, hcb, hg⟩⟩ ?_; intro p hp) | (refine And.intro ?_ ?_) | (refine fun _ => ?_))
    all_goals
      refine WpE.into ?_ (key p hp)
      exact into [0, 1, 2, 3, 4, 6] ⟨⟨_, rfl, rfl⟩, ⟨_, rfl, rfl⟩, ⟨_, rfl, rfl⟩, ⟨_, rfl, rfl⟩, ⟨_, rfl, rfl⟩, ⟨_, rfl, rfl⟩, trivial⟩ ⟨_, rfl, rfl⟩ rfl rfl rfl rfl
  rintro ⟨k', m', cb'⟩ ⟨hok', hcb'⟩
  simp only at hok' hcb'
  dsimp only
  refine e_run tt_ok ctPl_ok k_l32_TimerPlays [] 90 (by kernel_rfl) ?_
  refine ⟨i, fun _ => ⟨rfl, hlt, hbd⟩, ?_⟩
  refine ⟨[.int .u8 d.fn, .int .i32 d.n], rfl, fun _ => ⟨Nat.le_refl 2, hrow2⟩, ?_⟩
  refine ⟨fun _ => trivial, ?_⟩
  refine ⟨i, fun _ => ⟨rfl, hlt, hbd⟩, ?_⟩
  refine ⟨[.int .u8 d.fn, .int .i32 d.n], rfl, fun _ => ⟨Nat.le_refl 2, hrow2⟩, ?_⟩
  refine ⟨fun _ => trivial, ?_⟩
  refine ⟨fun h => ?_, fun _ => ?_⟩
  · exfalso
    have h' : (bif !true then true else (mineT d.fn d.n != mineT d.fn d.n)) = true := h
    simp at h'
  · exact e_again (i + 1, k', m', cb') ⟨by show i + 1 ≤ _; omega, hok', hcb'⟩ (by show D.length - (i + 1) < D.length - i; omega) (into [0, 1, 2, 3, 4, 5] ⟨⟨_, rfl, rfl⟩, ⟨_, rfl, rfl⟩, ⟨_, rfl, rfl⟩, ⟨_, rfl, rfl⟩, ⟨_, rfl, fvi (wrapSucc (by omega))⟩, trivial⟩ ⟨_, rfl, rfl⟩ rfl rfl rfl rfl)
theorem i64_fit {x : Int} (h : (Lit.int .i64 x).wf = true) : -9223372036854775808 ≤ x ∧ x ≤ 9223372036854775807 := by
  simp [Lit.wf, IntKind.min, IntKind.max, IntKind.signed, IntKind.bits] at h
  omega
theorem kok_cons {k : FK} {ks : List FK} {q : List Value} (h : KOK (k :: ks) q) : ∃ v vs, q = v :: vs ∧ k.ok v ∧ KOK ks vs := by
  cases q with
  | nil => exact h.elim
  | cons v vs => exact ⟨v, vs, rfl, h.1, h.2⟩
theorem kok_nil {q : List Value} (h : KOK [] q) : q = [] := by
  cases q with
  | nil => rfl
  | cons v vs => exact h.elim
theorem pl_conv (q : List Value) (h : KOK [.int .u8, .int .i32, .int .i32, .int .i64, .int .u8, .int .i32] q) : ∃ e, Pl.good e ∧ q = Pl.vs e := by
  obtain ⟨v0, q0, g0, ⟨a, e0, h1⟩, k0⟩ := kok_cons h
  obtain ⟨v1, q1, g1, ⟨b, e1, h2⟩, k1⟩ := kok_cons k0
  obtain ⟨v2, q2, g2, ⟨c, e2, h3⟩, k2⟩ := kok_cons k1
  obtain ⟨v3, q3, g3, ⟨d, e3, h4⟩, k3⟩ := kok_cons k2
  obtain ⟨v4, q4, g4, ⟨e, e4, _⟩, k4⟩ := kok_cons k3
  obtain ⟨v5, q5, g5, ⟨f, e5, _⟩, k5⟩ := kok_cons k4
  have g6 := kok_nil k5
  subst g6; subst e5; subst g5; subst e4; subst g4; subst e3; subst g3; subst e2; subst g2; subst e1; subst g1; subst e0; subst g0
  exact ⟨⟨a, b, c, d, e, f⟩, ⟨u8_fit h1, i32_fit h2, i32_fit h3, i64_fit h4⟩, rfl⟩
end Go.Proofs
