/- Rows of records. -/
import Derived.Test.YtcjaggapamngmaaWalkC
import Derived.Test.YtcjaggapamngmaaWalkH

namespace Go.Proofs
open Go Go.Sx
set_option maxRecDepth 10000
section
variable {α : Type} {vs : α → List Value} {n : Nat}
theorem tab_row (hn : ∀ x, (vs x).length = n) {l : List α} {i : Nat} {g : α} (h : l[i]? = some g) : seg (l.map vs).flatten (0 + i * n) n = vs g := by
  rw [Nat.zero_add]
  induction l generalizing i with
  | nil => simp at h
  | cons x l ih =>
    cases i with
    | zero =>
      simp at h; subst h
      show (((x :: l).map vs).flatten.drop (0 * n)).take n = _
      rw [Nat.zero_mul, List.drop_zero]
      show (vs x ++ (l.map vs).flatten).take n = _
      rw [← hn x, List.take_left]
    | succ i =>
      rw [← ih (by simpa using h)]
      show ((vs x ++ (l.map vs).flatten).drop ((i + 1) * n)).take n = ((l.map vs).flatten.drop (i * n)).take n
      rw [show (i + 1) * n = (vs x).length + i * n by rw [hn]; rw [Nat.add_mul]; omega, ← List.drop_drop, List.drop_left]
theorem tab_len (hn : ∀ x, (vs x).length = n) (l : List α) : (l.map vs).flatten.length = l.length * n := by
  induction l with
  | nil => simp
  | cons x l ih => rw [List.map_cons, List.flatten_cons, List.length_append, ih, hn, List.length_cons, Nat.add_mul]; omega
theorem tab_cell (hn : ∀ x, (vs x).length = n) {l : List α} {i j : Nat} {g : α} (h : l[i]? = some g) (hj : j < n) {v : Value} (hv : (vs g)[j]? = some v) : (l.map vs).flatten[0 + i * n + j]? = some v := by
  have hr := tab_row hn h
  rw [← hr] at hv
  unfold seg at hv
  rw [List.getElem?_take_of_lt hj, List.getElem?_drop] at hv
  rw [← hv]
theorem tab_bound (hn : ∀ x, (vs x).length = n) {l : List α} {i : Nat} (h : i < l.length) : 0 + (i + 1) * n ≤ (l.map vs).flatten.length := by
  rw [tab_len hn, Nat.zero_add]; exact Nat.mul_le_mul_right n h
end
end Go.Proofs

namespace Go.Proofs
open Go Go.Sx
set_option maxRecDepth 10000
/-- The processes of a timer queue; whether it ends. -/
def wlk : Nat → Ram → Int → List Int × Bool
  | 0, _, _ => ([], false)
  | f + 1, m, w => bif w == NP then ([], true) else bif bif f == 0 then true else !validB m w then ([], false)
      else (w :: (wlk f m (m.word (IntKind.i32.wrap (w + -16)))).1, (wlk f m (m.word (IntKind.i32.wrap (w + -16)))).2)
def insI (m : Ram) (at' : Int) (l : List Int) : Nat := (l.takeWhile fun w => !aftB (m.word (IntKind.i32.wrap (w + -20))) at').length
def remI (w : Int) (l : List Int) : Nat := (l.takeWhile fun x => !(x == w)).length
theorem insL_wlk {m : Ram} {at' : Int} : ∀ (f : Nat) (bef w : Int), insL f m at' bef w = bif bif insI m at' (wlk f m w).1 == (wlk f m w).1.length then !(wlk f m w).2 else false then none
    else some ((bef :: (wlk f m w).1).getD (insI m at' (wlk f m w).1) 0, (wlk f m w).1.getD (insI m at' (wlk f m w).1) NP)
  | 0, bef, w => rfl
  | f + 1, bef, w => by
    rw [insL, wlk]
    cases hn : (w == NP)
    · cases hb : (bif f == 0 then true else !validB m w)
      · rw [cond_false, cond_false, cond_false, cond_false]
        obtain ⟨⟨l, ok⟩, hl⟩ : ∃ r, wlk f m (m.word (IntKind.i32.wrap (w + -16))) = r := ⟨_, rfl⟩
        have ih := insL_wlk (m := m) (at' := at') f w (m.word (IntKind.i32.wrap (w + -16)))
        rw [hl] at ih ⊢
        cases ha : aftB (m.word (IntKind.i32.wrap (w + -20))) at'
        · have hi : insI m at' (w :: l) = insI m at' l + 1 := by unfold insI; rw [List.takeWhile_cons_of_pos (by rw [ha]; rfl)]; rfl
          rw [cond_false, ih, hi]
          simp only [List.length_cons]
          have e : (insI m at' l + 1 == l.length + 1) = (insI m at' l == l.length) := by rw [Bool.eq_iff_iff]; simp
          rw [e]; rfl
        · have hi : insI m at' (w :: l) = 0 := by unfold insI; rw [List.takeWhile_cons_of_neg (by rw [ha]; decide)]; rfl
          rw [cond_true, hi]; rfl
      · rfl
    · rw [show w = NP by simpa using hn]; rfl
theorem remL_wlk {m : Ram} {t : Int} : ∀ (f : Nat) (bef w : Int), remL f m t bef w = bif remI t (wlk f m w).1 == (wlk f m w).1.length then (bif (wlk f m w).2 then some none else none) else some (some ((bef :: (wlk f m w).1).getD (remI t (wlk f m w).1) 0))
  | 0, bef, w => rfl
  | f + 1, bef, w => by
    rw [remL, wlk]
    cases hn : (w == NP)
    · cases hb : (bif f == 0 then true else !validB m w)
      · rw [cond_false, cond_false, cond_false, cond_false]
        obtain ⟨⟨l, ok⟩, hl⟩ : ∃ r, wlk f m (m.word (IntKind.i32.wrap (w + -16))) = r := ⟨_, rfl⟩
        have ih := remL_wlk (m := m) (t := t) f w (m.word (IntKind.i32.wrap (w + -16)))
        rw [hl] at ih ⊢
        cases ha : (w == t)
        · have hi : remI t (w :: l) = remI t l + 1 := by unfold remI; rw [List.takeWhile_cons_of_pos (by rw [ha]; rfl)]; rfl
          rw [cond_false, ih, hi]
          simp only [List.length_cons]
          have e : (remI t l + 1 == l.length + 1) = (remI t l == l.length) := by rw [Bool.eq_iff_iff]; simp
          rw [e]; rfl
        · have hi : remI t (w :: l) = 0 := by unfold remI; rw [List.takeWhile_cons_of_neg (by rw [ha]; decide)]; rfl
          rw [cond_true, hi]; rfl
      · rfl
    · rfl
theorem tquL_wlk {m : Ram} : ∀ (f : Nat) (w : Int) (L : List Int), tquL f m w L = bif (wlk f m w).2 then some (L ++ (wlk f m w).1) else none
  | 0, w, L => rfl
  | f + 1, w, L => by
    rw [tquL, wlk]
    cases hn : (w == NP)
    · cases hb : (bif f == 0 then true else !validB m w)
      · rw [cond_false, cond_false, cond_false, cond_false, tquL_wlk f]
        obtain ⟨⟨l, ok⟩, hl⟩ : ∃ r, wlk f m (m.word (IntKind.i32.wrap (w + -16))) = r := ⟨_, rfl⟩
        rw [hl]
        simp
      · rfl
    · rw [cond_true, cond_true]; simp
theorem wlk_len {m : Ram} : ∀ (f : Nat) (w : Int), (wlk (f + 1) m w).1.length ≤ f
  | 0, w => by rw [wlk]; cases (w == NP) <;> exact Nat.le_refl _
  | f + 1, w => by
    rw [wlk]
    cases (w == NP)
    · cases (bif f + 1 == 0 then true else !validB m w)
      · have := wlk_len (m := m) f (m.word (IntKind.i32.wrap (w + -16)))
        simp only [cond_false, List.length_cons]; omega
      · exact Nat.zero_le _
    · exact Nat.zero_le _
theorem NP_bad (m : Ram) : validB m NP = false := by
  unfold validB
  have : decide (ofAt NP ≥ 20) = false := by decide
  rw [this]; rfl
theorem wlk_mem {m : Ram} : ∀ (f : Nat) (w : Int), ∀ x ∈ (wlk f m w).1, validB m x = true
  | 0, w, x, h => by cases h
  | f + 1, w, x, h => by
    rw [wlk] at h
    cases hn : (w == NP) <;> rw [hn] at h
    · cases hb : (bif f == 0 then true else !validB m w) <;> rw [hb] at h
      · rcases List.mem_cons.1 h with rfl | h
        · cases hv : validB m x
          · rw [hv] at hb; cases hf : (f == 0) <;> rw [hf] at hb <;> cases hb
          · rfl
        · exact wlk_mem f _ x h
      · cases h
    · cases h
theorem insI_le (m : Ram) (at' : Int) (l : List Int) : insI m at' l ≤ l.length := (List.takeWhile_sublist _).length_le
theorem remI_le (w : Int) (l : List Int) : remI w l ≤ l.length := (List.takeWhile_sublist _).length_le
end Go.Proofs

namespace Go.Proofs
open Go Go.Sx
set_option maxRecDepth 10000
theorem RAfter_c (a b : Int) : Con Try.prog f_r32_After [.s (.int .i32 a), .s (.int .i32 b)] [] (.ret (.t (.s (.bool (aftB a b)))) []) := by
  intro K hK
  refine enter fn_r32_After rfl nt_r32_After rfl rfl (fun φ w0 β0 F => ?_)
  refine c_run tt_ok (ct := []) trivial k_r32_After [] 60 (by kernel_rfl) ?_
  exact fin_k tt_ok (rs := rs_r32_After) rfl rfl hK [] rfl rfl rfl rfl rfl rfl
theorem ceRAfter : CEok Try.prog f_r32_After spAfter := ⟨cal_r32_After, fun args p v h hp => by
  unfold spAfter at h; split at h
  · cases h; exact (RAfter_c _ _).pure
  · cases h⟩
noncomputable abbrev ctRWk : CT := [(f_r29_Valid, eRValid), (f_r29_Word, eRWord9)]
theorem ctRWk_ok : CTok Try.prog ctRWk := ⟨con_ok cal_r29_Valid _, con_ok cal_r29_Word _, trivial⟩
abbrev RWk (m : Ram) (L : List Int) (ok : Bool) : Out := .all Nat (fun c => L.length ≤ c ∧ (c = 0 → L = [])) fun c => .ret (.tup [.s (.sl 1 0 L.length c), .s (.bool ok)]) [.view (bytesI m.l), .own 21 1 c (qV L)]
set_option maxHeartbeats 1000000 in
theorem Rwalk_0 (k : Core) (m : Ram) (cap : Nat) (L' : List Int) (ok' : Bool) (hok : k.ok) (hx : wlk queN m k.t0 = (L', ok')) : Con Try.prog f_r32_walk [.agg k.sv, .s (.sl 0 0 m.l.length cap), .s (.int .i64 0)] [.view (bytesI m.l)] (RWk m L' ok') := by
  intro K hK
  refine enter fn_r32_walk rfl nt_r32_walk rfl rfl (fun φ w0 β0 F => ?_)
  refine c_run tt_ok ctRWk_ok k_r32_walk [] 60 (by kernel_rfl) ?_
  show WpC _ _ _ _ _
  refine WpC.into (nilSlot 8 21 1 rfl) ?_
  refine c_loop (α := Int × List Int × Nat × Nat) (fun x => I32 x.1 ∧ x.2.1.length ≤ x.2.2.1 ∧ (x.2.2.1 = 0 → x.2.1 = []) ∧ (x.2.2.2 + x.2.1.length = 1025 ∧ x.2.1.length ≤ 1024) ∧ (L' = x.2.1 ++ (wlk x.2.2.2 m x.1).1 ∧ ok' = (wlk x.2.2.2 m x.1).2)) (fun x => x.2.2.2)
    (fun x => [(1, .t (.s (.sl 0 0 m.l.length cap)), none), (2, .t (.s (.int .i64 0)), none), (3, .t (.s (.loc 1 0)), none), (8, .t (.s (.sl 2 0 x.2.1.length x.2.2.1)), none), (9, .t (.s (.int .i32 x.1)), none)])
    (fun x => [.view (bytesI m.l), .blk 26 k.sv, .own 21 1 x.2.2.1 (qV x.2.1)]) (k.t0, [], 0, queN) ⟨hok.t0, Nat.le_refl _, fun _ => rfl, ⟨queN_eq, Nat.zero_le _⟩, by dsimp only; rw [hx]; exact ⟨rfl, rfl⟩⟩ ?_ ?_
  · exact into [0, 1, 2] ⟨⟨_, rfl, rfl⟩, ⟨_, rfl, rfl⟩, ⟨_, rfl, rfl⟩, ⟨_, rfl, rfl⟩, ⟨_, rfl, rfl⟩, trivial⟩ ⟨_, rfl, rfl⟩ rfl rfl rfl rfl
  rintro ⟨w, L, c, fu⟩ ⟨hw, hLc, hL0, ⟨hf, hL4⟩, hl1, hl2⟩
  simp only at hw hLc hL0 hf hL4 hl1 hl2
  obtain ⟨fu, rfl⟩ : ∃ f', fu = f' + 1 := ⟨fu - 1, by omega⟩
  rw [wlk] at hl1 hl2
  have efu : ((L.length : Int) == 1024) = (fu == 0) := by
    cases h : (fu == 0) <;> simp at h ⊢ <;> omega
  dsimp only
  refine c_run' tt_ok ctRWk_ok k_r32_walk [100027] 60 (by kernel_rfl) (by kernel_rfl) ?_
  refine ⟨fun h1 => ?_, fun h1 => ?_⟩
  · have hn : (w == NP) = false := by
      have : (w != NP) = true := h1
      simpa using this
    rw [hn, cond_false] at hl1 hl2
    refine ⟨m, ⟨rfl, rfl, hw⟩, ?_⟩
    refine ⟨.t (.s (.bool (bif fu == 0 then true else !validB m w))), fun β => told_bl (by rw [← efu]; cases validB m w <;> cases ((L.length : Int) == 1024) <;> rfl), rfl, ?_⟩
    refine ⟨fun h2 => ?_, fun h2 => ?_⟩
    · rw [h2, cond_true] at hl1 hl2
      rw [List.append_nil] at hl1
      subst hl1; subst hl2
      exact fin_k tt_ok (rs := rs_r32_walk) rfl rfl (hK c ⟨hLc, hL0⟩) [0, 2] rfl rfl rfl rfl rfl rfl
    · rw [h2, cond_false] at hl1 hl2
      have hlen : fu ≠ 0 := by
        intro e
        rw [e] at h2
        cases h2
      refine ⟨⟨rfl, by rw [qV_len, Nat.mul_one], Nat.le_refl _, fun u hu => ?_, by simp only [maxLen]; omega, by omega⟩, fun c1 hc1 _ => ?_⟩
      · rw [List.mem_singleton.1 (List.mem_of_mem_drop (List.mem_of_mem_take hu))]; rfl
      refine ⟨m, ⟨rfl, rfl⟩, ?_⟩
      refine e_again (m.word (IntKind.i32.wrap (w + -16)), L ++ [w], c1, fu) ⟨word_I32 _ _, by simpa using hc1, fun h0 => by have h0' : c1 = 0 := h0; have : L.length + 1 ≤ c1 := hc1; omega, ⟨by simp only [List.length_append, List.length_singleton]; omega, by simp only [List.length_append, List.length_singleton]; omega⟩, ⟨by rw [hl1]; simp, hl2⟩⟩ (Nat.lt_succ_self fu) (into [0, 1, 4] ⟨⟨_, rfl, rfl⟩, ⟨_, rfl, rfl⟩, ⟨_, rfl, rfl⟩, ⟨_, rfl, ?_⟩, ⟨_, rfl, rfl⟩, trivial⟩ ⟨_, rfl, ?_⟩ rfl rfl rfl rfl)
      · dsimp only; rw [show (L ++ [w]).length = L.length + 1 by simp]; rfl
      · dsimp only; rw [qV_app]; rfl
  · have hn : (w == NP) = true := by
      have : (w != NP) = false := h1
      simpa using this
    rw [hn, cond_true] at hl1 hl2
    rw [List.append_nil] at hl1
    subst hl1; subst hl2
    exact fin_k tt_ok (rs := rs_r32_walk) rfl rfl (hK c ⟨hLc, hL0⟩) [0, 2] rfl rfl rfl rfl rfl rfl
set_option maxHeartbeats 1000000 in
theorem Rwalk_1 (k : Core) (m : Ram) (cap : Nat) (L' : List Int) (ok' : Bool) (hok : k.ok) (hx : wlk queN m k.t1 = (L', ok')) : Con Try.prog f_r32_walk [.agg k.sv, .s (.sl 0 0 m.l.length cap), .s (.int .i64 1)] [.view (bytesI m.l)] (RWk m L' ok') := by
  intro K hK
  refine enter fn_r32_walk rfl nt_r32_walk rfl rfl (fun φ w0 β0 F => ?_)
  refine c_run tt_ok ctRWk_ok k_r32_walk [] 60 (by kernel_rfl) ?_
  show WpC _ _ _ _ _
  refine WpC.into (nilSlot 8 21 1 rfl) ?_
  refine c_loop (α := Int × List Int × Nat × Nat) (fun x => I32 x.1 ∧ x.2.1.length ≤ x.2.2.1 ∧ (x.2.2.1 = 0 → x.2.1 = []) ∧ (x.2.2.2 + x.2.1.length = 1025 ∧ x.2.1.length ≤ 1024) ∧ (L' = x.2.1 ++ (wlk x.2.2.2 m x.1).1 ∧ ok' = (wlk x.2.2.2 m x.1).2)) (fun x => x.2.2.2)
    (fun x => [(1, .t (.s (.sl 0 0 m.l.length cap)), none), (2, .t (.s (.int .i64 1)), none), (3, .t (.s (.loc 1 0)), none), (8, .t (.s (.sl 2 0 x.2.1.length x.2.2.1)), none), (9, .t (.s (.int .i32 x.1)), none)])
    (fun x => [.view (bytesI m.l), .blk 26 k.sv, .own 21 1 x.2.2.1 (qV x.2.1)]) (k.t1, [], 0, queN) ⟨hok.t1, Nat.le_refl _, fun _ => rfl, ⟨queN_eq, Nat.zero_le _⟩, by dsimp only; rw [hx]; exact ⟨rfl, rfl⟩⟩ ?_ ?_
  · exact into [0, 1, 2] ⟨⟨_, rfl, rfl⟩, ⟨_, rfl, rfl⟩, ⟨_, rfl, rfl⟩, ⟨_, rfl, rfl⟩, ⟨_, rfl, rfl⟩, trivial⟩ ⟨_, rfl, rfl⟩ rfl rfl rfl rfl
  rintro ⟨w, L, c, fu⟩ ⟨hw, hLc, hL0, ⟨hf, hL4⟩, hl1, hl2⟩
  simp only at hw hLc hL0 hf hL4 hl1 hl2
  obtain ⟨fu, rfl⟩ : ∃ f', fu = f' + 1 := ⟨fu - 1, by omega⟩
  rw [wlk] at hl1 hl2
  have efu : ((L.length : Int) == 1024) = (fu == 0) := by
    cases h : (fu == 0) <;> simp at h ⊢ <;> omega
  dsimp only
  refine c_run' tt_ok ctRWk_ok k_r32_walk [100027] 60 (by kernel_rfl) (by kernel_rfl) ?_
  refine ⟨fun h1 => ?_, fun h1 => ?_⟩
  · have hn : (w == NP) = false := by
      have : (w != NP) = true := h1
      simpa using this
    rw [hn, cond_false] at hl1 hl2
    refine ⟨m, ⟨rfl, rfl, hw⟩, ?_⟩
    refine ⟨.t (.s (.bool (bif fu == 0 then true else !validB m w))), fun β => told_bl (by rw [← efu]; cases validB m w <;> cases ((L.length : Int) == 1024) <;> rfl), rfl, ?_⟩
    refine ⟨fun h2 => ?_, fun h2 => ?_⟩
    · rw [h2, cond_true] at hl1 hl2
      rw [List.append_nil] at hl1
      subst hl1; subst hl2
      exact fin_k tt_ok (rs := rs_r32_walk) rfl rfl (hK c ⟨hLc, hL0⟩) [0, 2] rfl rfl rfl rfl rfl rfl
    · rw [h2, cond_false] at hl1 hl2
      have hlen : fu ≠ 0 := by
        intro e
        rw [e] at h2
        cases h2
      refine ⟨⟨rfl, by rw [qV_len, Nat.mul_one], Nat.le_refl _, fun u hu => ?_, by simp only [maxLen]; omega, by omega⟩, fun c1 hc1 _ => ?_⟩
      · rw [List.mem_singleton.1 (List.mem_of_mem_drop (List.mem_of_mem_take hu))]; rfl
      refine ⟨m, ⟨rfl, rfl⟩, ?_⟩
      refine e_again (m.word (IntKind.i32.wrap (w + -16)), L ++ [w], c1, fu) ⟨word_I32 _ _, by simpa using hc1, fun h0 => by have h0' : c1 = 0 := h0; have : L.length + 1 ≤ c1 := hc1; omega, ⟨by simp only [List.length_append, List.length_singleton]; omega, by simp only [List.length_append, List.length_singleton]; omega⟩, ⟨by rw [hl1]; simp, hl2⟩⟩ (Nat.lt_succ_self fu) (into [0, 1, 4] ⟨⟨_, rfl, rfl⟩, ⟨_, rfl, rfl⟩, ⟨_, rfl, rfl⟩, ⟨_, rfl, ?_⟩, ⟨_, rfl, rfl⟩, trivial⟩ ⟨_, rfl, ?_⟩ rfl rfl rfl rfl)
      · dsimp only; rw [show (L ++ [w]).length = L.length + 1 by simp]; rfl
      · dsimp only; rw [qV_app]; rfl
  · have hn : (w == NP) = true := by
      have : (w != NP) = false := h1
      simpa using this
    rw [hn, cond_true] at hl1 hl2
    rw [List.append_nil] at hl1
    subst hl1; subst hl2
    exact fin_k tt_ok (rs := rs_r32_walk) rfl rfl (hK c ⟨hLc, hL0⟩) [0, 2] rfl rfl rfl rfl rfl rfl
noncomputable abbrev eRwalk : Ent := .st (conS (P := Try.prog) (f := f_r32_walk) fun cargs σ0 => match cargs, σ0 with
  | [.agg cs, .s (.sl 0 0 n cap), .s (.int .i64 p)], [.view xs] => withCore cs fun k hk => some ⟨.ex (Ram × List Int × Bool) fun q => .ask (n = q.1.l.length ∧ xs = bytesI q.1.l ∧ (k.ok ∧ (p = 0 ∨ p = 1)) ∧ wlk queN q.1 (k.tm (p == 1)) = q.2) (RWk q.1 q.2.1 q.2.2), fun K h => by
      obtain ⟨⟨m, L, ok⟩, ⟨e1, e2, ⟨h1, h2⟩, h3⟩, h⟩ := h
      dsimp only at e1 e2 h3 h
      subst e1; subst e2; subst hk
      rcases h2 with rfl | rfl
      · exact Rwalk_0 k m cap L ok h1 h3 K h
      · exact Rwalk_1 k m cap L ok h1 h3 K h⟩
  | _, _ => none)
end Go.Proofs

namespace Go.Proofs
open Go Go.Sx
set_option maxRecDepth 10000
noncomputable abbrev ctRQu : CT := [(f_r32_walk, eRwalk)]
theorem ctRQu_ok : CTok Try.prog ctRQu := ⟨con_ok cal_r32_walk _, trivial⟩
abbrev RQ (m : Ram) (L : List Int) (e : Int) : Out := .all Nat (fun c => L.length ≤ c ∧ (c = 0 → L = [])) fun c => .ret (.tup [.s (.sl 1 0 L.length c), .s (.int .i64 e)]) [.view (bytesI m.l), .own 21 1 c (qV L)]
theorem RtQueue_c (k : Core) (m : Ram) (cap : Nat) (p : Int) (L' : List Int) (e' : Int) (hok : k.ok) (hx : tqeR k m p = (L', e')) : Con Try.prog f_r32_Queue [.agg k.sv, .s (.sl 0 0 m.l.length cap), .s (.int .i64 p)] [.view (bytesI m.l)] (RQ m L' e') := by
  intro K hK
  unfold tqeR at hx
  refine enter fn_r32_Queue rfl nt_r32_Queue rfl rfl (fun φ w0 β0 F => ?_)
  refine c_run tt_ok ctRQu_ok k_r32_Queue [] 60 (by kernel_rfl) ?_
  refine ⟨fun h => ?_, fun h => ?_⟩
  · rw [priB_not] at h
    rw [h, cond_true] at hx
    cases hx
    refine WpE.into (nilSlot 6 21 1 rfl) ?_
    exact fin_k tt_ok (rs := rs_r32_Queue) rfl rfl (hK 0 ⟨Nat.le_refl _, fun _ => rfl⟩) [0, 2] rfl rfl rfl rfl rfl rfl
  · rw [priB_not] at h
    rw [h, cond_false, tquL_wlk] at hx
    have hp : p = 0 ∨ p = 1 := by
      unfold priB at h
      by_cases h0 : p = 0
      · exact .inl h0
      · by_cases h1 : p = 1
        · exact .inr h1
        · simp [h0, h1] at h
    obtain ⟨⟨L, ok⟩, hl⟩ : ∃ r, wlk queN m (k.tm (p == 1)) = r := ⟨_, rfl⟩
    rw [hl] at hx
    refine ⟨(m, L, ok), ⟨rfl, rfl, ⟨hok, hp⟩, hl⟩, fun c hc => ?_⟩
    refine ⟨fun h2 => ?_, fun h2 => ?_⟩
    · have : ok = false := by have h3 : (!ok) = true := h2; simpa using h3
      rw [this] at hx
      cases hx
      refine WpE.into (nilSlot 6 21 1 rfl) ?_
      exact fin_k tt_ok (rs := rs_r32_Queue) rfl rfl (hK 0 ⟨Nat.le_refl _, fun _ => rfl⟩) [0, 3] rfl rfl rfl rfl rfl rfl
    · have : ok = true := by have h3 : (!ok) = false := h2; simpa using h3
      rw [this] at hx
      cases hx
      exact fin_k tt_ok (rs := rs_r32_Queue) rfl rfl (hK c hc) [0, 2] rfl rfl rfl rfl rfl rfl
noncomputable abbrev eRtQueue : Ent := .st (conS (P := Try.prog) (f := f_r32_Queue) fun cargs σ0 => match cargs, σ0 with
  | [.agg cs, .s (.sl 0 0 n cap), .s (.int .i64 p)], [.view xs] => withCore cs fun k hk => some ⟨.ex (Ram × List Int × Int) fun q => .ask (n = q.1.l.length ∧ xs = bytesI q.1.l ∧ k.ok ∧ tqeR k q.1 p = q.2) (RQ q.1 q.2.1 q.2.2), fun K h => by
      obtain ⟨⟨m, L, e⟩, ⟨e1, e2, h1, h3⟩, h⟩ := h
      dsimp only at e1 e2 h3 h
      subst e1; subst e2; subst hk
      exact RtQueue_c k m cap p L e h1 h3 K h⟩
  | _, _ => none)
/-- The link to process number j of a queue. -/
def lnkR (k : Core) (m : Ram) (L : List Int) (j : Nat) (o : Bool) (w : Int) : Core × Ram := bif j == 0 then (k.setT o w, m) else (k, m.set (IntKind.i32.wrap (L.getD (j - 1) 0 + -16)) w)
abbrev RLk (m : Ram) (L : List Int) (k' : Core) (m' : Ram) : Out := .all Nat (fun c => m'.l.length ≤ c) fun c => .ret (.tup [.agg k'.sv, .s (.sl 2 0 m'.l.length c)]) [.view (bytesI m.l), .view (qV L), .view (bytesI m'.l)]
noncomputable abbrev ctRLk : CT := [(f_r29_Set, eRSet)]
theorem ctRLk_ok : CTok Try.prog ctRLk := ⟨con_ok cal_r29_Set _, trivial⟩
set_option maxHeartbeats 1000000 in
theorem Rlink_c (k : Core) (m : Ram) (cap : Nat) (L : List Int) (cl j : Nat) (p w : Int) (k' : Core) (m' : Ram) (hp : p = 0 ∨ p = 1) (hj : j ≤ L.length) (hL : L.length ≤ 2000) (hc : m.l.length ≤ cap) (hx : lnkR k m L j (p == 1) w = (k', m')) :
    Con Try.prog f_r32_link [.agg k.sv, .s (.sl 0 0 m.l.length cap), .s (.sl 1 0 L.length cl), .s (.int .i64 (j : Int)), .s (.int .i64 p), .s (.int .i32 w)] [.view (bytesI m.l), .view (qV L)] (RLk m L k' m') := by
  intro K hK
  unfold lnkR at hx
  have hj0 : ((j : Int) == 0) = (j == 0) := by rw [Bool.eq_iff_iff]; simp
  rcases hp with rfl | rfl
  all_goals
    refine enter fn_r32_link rfl nt_r32_link rfl rfl (fun φ w0 β0 F => ?_)
    refine c_run tt_ok ctRLk_ok k_r32_link [] 60 (by kernel_rfl) ?_
    refine ⟨fun h => ?_, fun h => ?_⟩
    · rw [hj0] at h
      rw [h, cond_true] at hx
      cases hx
      refine WpE.into (aliasSlot 13 0 0 m.l.length cap rfl rfl) ?_
      refine fin_k tt_ok (rs := rs_r32_link) rfl rfl (hK cap hc) [0, 1, 4] rfl ?_ rfl rfl rfl rfl
      rw [seg_all]; rfl
    · rw [hj0] at h
      rw [h, cond_false] at hx
      cases hx
      have hj1 : 1 ≤ j := by have : j ≠ 0 := by simpa using h
                             omega
      have hat : (qV L)[0 + (j - 1) * (0 + 1)]? = some (.int .i32 (L.getD (j - 1) 0)) := by
        rw [show 0 + (j - 1) * (0 + 1) = j - 1 by omega]
        exact qV_at (by rw [List.getD_eq_getElem?_getD, List.getElem?_eq_getElem (by omega)]; rfl)
      have hw1 : IntKind.i64.wrap ((j : Int) - 1) = ((j - 1 : Nat) : Int) := by rw [wrap64 (by omega) (by omega)]; omega
      show WpC _ _ _ _ _
      refine c_waysH tt_ok ctRLk_ok k_r32_link [] rfl rfl rfl ?_
      repeat' (first | exact trivial | exact ⟨rfl, trivial⟩ | (refine Exists.intro (j - 1) ?_; refine And.intro ⟨hw1, by omega, by rw [qV_len, Nat.zero_add, Nat.zero_add, Nat.mul_one]; omega⟩ ?_) | (refine Exists.intro (SV.int .i32 (L.getD (j - 1) 0)) ?_; refine And.intro rfl (And.intro hat ?_)) | (refine Exists.intro m ?_; refine And.intro ⟨rfl, rfl, hc⟩ ?_) | (refine And.intro ?_ ?_) | (refine fun _ => ?_))
      all_goals
        refine e_run tt_ok ctRLk_ok k_r32_link [] 60 (by kernel_rfl) ?_
        refine fin_k tt_ok (rs := rs_r32_link) rfl rfl (hK _ (by rw [set_len]; assumption)) [0, 1, 4] rfl rfl rfl rfl rfl rfl
noncomputable abbrev eRlink : Ent := .st (conS (P := Try.prog) (f := f_r32_link) fun cargs σ0 => match cargs, σ0 with
  | [.agg cs, .s (.sl 0 0 n cap), .s (.sl 1 0 n2 cl), .s (.int .i64 i), .s (.int .i64 p), .s (.int .i32 w)], [.view xs, .view ys] => withCore cs fun k hk => some ⟨.ex ((Ram × List Int × Nat) × Core × Ram) fun q =>
      .ask (n = q.1.1.l.length ∧ xs = bytesI q.1.1.l ∧ n2 = q.1.2.1.length ∧ ys = qV q.1.2.1 ∧ i = (q.1.2.2 : Int) ∧ ((p = 0 ∨ p = 1) ∧ q.1.2.2 ≤ q.1.2.1.length ∧ q.1.2.1.length ≤ 2000 ∧ q.1.1.l.length ≤ cap) ∧ lnkR k q.1.1 q.1.2.1 q.1.2.2 (p == 1) w = q.2)
      (RLk q.1.1 q.1.2.1 q.2.1 q.2.2), fun K h => by
      obtain ⟨⟨⟨m, L, j⟩, k', m'⟩, ⟨e1, e2, e3, e4, e5, ⟨h1, h2, h3, h4⟩, h5⟩, h⟩ := h
      dsimp only at e1 e2 e3 e4 e5 h2 h3 h4 h5 h
      subst e1; subst e2; subst e3; subst e4; subst e5; subst hk
      exact Rlink_c k m cap L cl j p w k' m' h1 h2 h3 h4 h5 K h⟩
  | _, _ => none)
end Go.Proofs

namespace Go.Proofs
open Go Go.Sx
set_option maxRecDepth 10000
theorem priB_two {p : Int} (h : (!priB p) = false) : p = 0 ∨ p = 1 := by
  unfold priB at h
  by_cases h0 : p = 0
  · exact .inl h0
  · by_cases h1 : p = 1
    · exact .inr h1
    · simp [h0, h1] at h
/-- Insert, over the list. -/
theorem insR_wlk {k : Core} {m : Ram} {w at' p : Int} {L : List Int} {ok : Bool} (hl : wlk queN m (k.tm (p == 1)) = (L, ok)) (hv : validB m w = true) :
    insR k m w at' p = bif bif insI m at' L == L.length then !ok else false then none else some (lnkR k (insA m w at' (L.getD (insI m at' L) NP)) L (insI m at' L) (p == 1) w) := by
  unfold insR
  rw [hv, insL_wlk, hl]
  show (bif false then none else _) = _
  rw [cond_false]
  cases hc : (bif insI m at' L == L.length then !ok else false)
  · rw [cond_false, cond_false, insE]
    congr 1
    unfold lnkR lnkK lnkM
    cases hi : insI m at' L with
    | zero => rfl
    | succ i =>
      have hil : i < L.length := by have := insI_le m at' L; omega
      have hg : (NP :: L).getD (i + 1) 0 = L[i] := by rw [List.getD_cons_succ, List.getD_eq_getElem?_getD, List.getElem?_eq_getElem hil]; rfl
      have hg2 : L.getD (i + 1 - 1) 0 = L[i] := by rw [Nat.add_sub_cancel, List.getD_eq_getElem?_getD, List.getElem?_eq_getElem hil]; rfl
      have hne : (L[i] == NP) = false := by
        have hm := wlk_mem queN (k.tm (p == 1)) (m := m) L[i] (by rw [hl]; exact List.getElem_mem hil)
        cases hn : (L[i] == NP)
        · rfl
        · rw [show L[i] = NP by simpa using hn, NP_bad] at hm; cases hm
      simp only [hg, hg2, hne]
      rfl
  · rfl
noncomputable abbrev ctRIn : CT := [(f_r29_Valid, eRValid), (f_r29_Word, eRWord9), (f_r29_Set, eRSet), (f_r32_After, .pure spAfter), (f_r32_walk, eRwalk), (f_r32_link, eRlink)]
theorem ctRIn_ok : CTok Try.prog ctRIn := ⟨con_ok cal_r29_Valid _, con_ok cal_r29_Word _, con_ok cal_r29_Set _, ceRAfter, con_ok cal_r32_walk _, con_ok cal_r32_link _, trivial⟩
theorem insI_nil (m : Ram) (at' : Int) : insI m at' [] = 0 := rfl
theorem insI_cons {m : Ram} {at' x : Int} {l : List Int} : insI m at' (x :: l) = bif aftB (m.word (IntKind.i32.wrap (x + -20))) at' then 0 else insI m at' l + 1 := by
  unfold insI
  cases h : aftB (m.word (IntKind.i32.wrap (x + -20))) at'
  · rw [List.takeWhile_cons_of_pos (by rw [h]; rfl)]; rfl
  · rw [List.takeWhile_cons_of_neg (by rw [h]; decide)]; rfl
set_option maxHeartbeats 4000000 in
theorem RInsert_c (k : Core) (m : Ram) (cap : Nat) (w at' p : Int) (k' : Core) (e' : Int) (m' : Ram) (hok : k.ok) (hw : I32 w) (hc : m.l.length ≤ cap) (hx : tinR k m w at' p = (k', e', m')) :
    Con Try.prog f_r32_Insert [.agg k.sv, .s (.sl 0 0 m.l.length cap), .s (.int .i32 w), .s (.int .i32 at'), .s (.int .i64 p)] [.view (bytesI m.l)] (RES m m' k' e') := by
  intro K hK
  unfold tinR at hx
  refine enter fn_r32_Insert rfl nt_r32_Insert rfl rfl (fun φ w0 β0 F => ?_)
  refine c_run tt_ok ctRIn_ok k_r32_Insert [] 90 (by kernel_rfl) ?_
  refine ⟨fun h => ?_, fun h => ?_⟩
  · rw [priB_not] at h
    rw [h, cond_true] at hx
    cases hx
    refine WpE.into (aliasSlot 11 0 0 m.l.length cap rfl rfl) ?_
    refine fin_k tt_ok (rs := rs_r32_Insert) rfl rfl (hK cap hc) [0, 3] rfl ?_ rfl rfl rfl rfl
    rw [seg_all]; rfl
  rw [priB_not] at h
  rw [h, cond_false] at hx
  have hp := priB_two h
  refine ⟨m, ⟨rfl, rfl, hw⟩, fun h2 => ?_, fun h2 => ?_⟩
  · have hv : validB m w = false := by have h3 : (!validB m w) = true := h2; simpa using h3
    rw [show insR k m w at' p = none by unfold insR; rw [hv]; rfl] at hx
    cases hx
    refine WpE.into (aliasSlot 11 0 0 m.l.length cap rfl rfl) ?_
    refine fin_k tt_ok (rs := rs_r32_Insert) rfl rfl (hK cap hc) [0, 3] rfl ?_ rfl rfl rfl rfl
    rw [seg_all]; rfl
  have hv : validB m w = true := by have h3 : (!validB m w) = false := h2; simpa using h3
  obtain ⟨⟨L, ok⟩, hl⟩ : ∃ r, wlk queN m (k.tm (p == 1)) = r := ⟨_, rfl⟩
  rw [insR_wlk hl hv] at hx
  have hLn : L.length ≤ 1024 := by
    have := wlk_len (m := m) 1024 (k.tm (p == 1))
    rw [← show queN = 1024 + 1 from queN_eq, hl] at this
    exact this
  refine ⟨(m, L, ok), ⟨rfl, rfl, ⟨hok, hp⟩, hl⟩, fun cl hcl => ?_⟩
  show WpC _ _ _ _ _
  refine c_freeze 3 rfl rfl ?_
  refine c_loop (α := Nat) (fun j => j ≤ L.length ∧ insI m at' L = j + insI m at' (L.drop j)) (fun j => L.length - j)
    (fun j => [(1, .t (.s (.sl 0 0 m.l.length cap)), none), (2, .t (.s (.int .i32 w)), none), (3, .t (.s (.int .i32 at')), none), (4, .t (.s (.int .i64 p)), none), (5, .t (.s (.loc 1 0)), none), (10, .t (.s (.loc 2 0)), none), (13, .t (.s (.sl 3 0 L.length cl)), none), (14, .t (.s (.bool ok)), none), (15, .t (.s (.int .i64 (j : Int))), none)])
    (fun _ => [.view (bytesI m.l), .blk 26 k.sv, .blk 26 Core.zero.sv, .view (qV L)]) 0 ⟨Nat.zero_le _, by simp⟩ ?_ ?_
  · exact into [0, 1, 2, 3] ⟨⟨_, rfl, rfl⟩, ⟨_, rfl, rfl⟩, ⟨_, rfl, rfl⟩, ⟨_, rfl, rfl⟩, ⟨_, rfl, rfl⟩, ⟨_, rfl, rfl⟩, ⟨_, rfl, rfl⟩, ⟨_, rfl, rfl⟩, ⟨_, rfl, rfl⟩, trivial⟩ ⟨_, rfl, rfl⟩ rfl rfl rfl rfl
  rintro j ⟨hj, hlaw⟩
  refine c_run' tt_ok ctRIn_ok k_r32_Insert [100043, 100063] 90 (by kernel_rfl) (by kernel_rfl) ?_
  by_cases hjl : j < L.length
  · have hx0 : L.getD j 0 = L[j] := by rw [List.getD_eq_getElem?_getD, List.getElem?_eq_getElem hjl]; rfl
    have hat : (qV L)[0 + j * (0 + 1)]? = some (.int .i32 (L.getD j 0)) := by
      rw [show 0 + j * (0 + 1) = j by omega]
      exact qV_at (by rw [List.getD_eq_getElem?_getD, List.getElem?_eq_getElem hjl]; rfl)
    have hcons : insI m at' (L.drop j) = bif aftB (m.word (IntKind.i32.wrap (L.getD j 0 + -20))) at' then 0 else insI m at' (L.drop (j + 1)) + 1 := by
      rw [List.drop_eq_getElem_cons hjl, insI_cons, hx0]
    refine ⟨.t (.s (.bool true)), fun β => told_tr (decide_eq_true (by omega)), rfl, ?_⟩
    refine ⟨j, fun _ => ⟨rfl, hjl, by rw [qV_len, Nat.zero_add, Nat.zero_add, Nat.mul_one]; omega⟩, .int .i32 (L.getD j 0), rfl, fun _ => hat, ?_⟩
    refine ⟨fun _ => ⟨m, ⟨rfl, rfl⟩, ?_⟩, fun h => absurd h (by decide)⟩
    refine ⟨fun _ => trivial, ?_⟩
    refine ⟨fun h3 => ?_, fun h3 => ?_⟩
    · have ha : aftB (m.word (IntKind.i32.wrap (L.getD j 0 + -20))) at' = false := by
        have h4 : (bif true then !aftB (m.word (IntKind.i32.wrap (L.getD j 0 + -20))) at' else false) = true := h3
        simpa using h4
      rw [ha, cond_false] at hcons
      exact e_again (j + 1) ⟨hjl, by omega⟩ (by omega) (into [0, 1, 2, 3] ⟨⟨_, rfl, rfl⟩, ⟨_, rfl, rfl⟩, ⟨_, rfl, rfl⟩, ⟨_, rfl, rfl⟩, ⟨_, rfl, rfl⟩, ⟨_, rfl, rfl⟩, ⟨_, rfl, rfl⟩, ⟨_, rfl, rfl⟩, ⟨_, rfl, fvi (wrapSucc (by omega))⟩, trivial⟩ ⟨_, rfl, rfl⟩ rfl rfl rfl rfl)
    · have ha : aftB (m.word (IntKind.i32.wrap (L.getD j 0 + -20))) at' = true := by
        have h4 : (bif true then !aftB (m.word (IntKind.i32.wrap (L.getD j 0 + -20))) at' else false) = false := h3
        simpa using h4
      rw [ha, cond_true] at hcons
      have hi : insI m at' L = j := by omega
      rw [hi, show (j == L.length) = false by simp; omega, cond_false, cond_false] at hx
      refine ⟨.t (.s (.bool false)), fun β => told_bl (by rw [show ((j : Int) == (L.length : Int)) = false by simp; omega]; rfl), rfl, ?_⟩
      refine ⟨fun h => absurd h (by decide), fun _ => ?_⟩
      refine ⟨fun _ => ?_, fun h => absurd h (by rw [decide_eq_true (show (j : Int) < (L.length : Int) by omega)]; decide)⟩
      refine ⟨j, ⟨rfl, hjl, by rw [qV_len, Nat.zero_add, Nat.zero_add, Nat.mul_one]; omega⟩, .int .i32 (L.getD j 0), rfl, hat, ?_⟩
      rw [show L.getD j NP = L.getD j 0 by rw [hx0, List.getD_eq_getElem?_getD, List.getElem?_eq_getElem hjl]; rfl] at hx
      obtain ⟨m1, hm1⟩ : ∃ m1, m.set (IntKind.i32.wrap (w + IntKind.i32.wrap (4 * -5))) at' = m1 := ⟨_, rfl⟩
      obtain ⟨m2, hm2⟩ : ∃ m2, m1.set (IntKind.i32.wrap (w + IntKind.i32.wrap (4 * -4))) (L.getD j 0) = m2 := ⟨_, rfl⟩
      have hA : insA m w at' (L.getD j 0) = m2 := by
        unfold insA
        rw [← hm2, ← hm1, show IntKind.i32.wrap (4 * -5) = -20 by decide, show IntKind.i32.wrap (4 * -4) = -16 by decide]
      have hl1 : m1.l.length = m.l.length := by rw [← hm1, set_len]
      have hl2 : m2.l.length = m.l.length := by rw [← hm2, set_len, hl1]
      obtain ⟨⟨kk, mm⟩, hlk⟩ : ∃ r, lnkR k m2 L j (p == 1) w = r := ⟨_, rfl⟩
      rw [hA, hlk] at hx
      have hx' : (kk, (0 : Int), mm) = (k', e', m') := hx
      cases hx'
      refine ⟨m, ⟨rfl, rfl, hc⟩, fun d1 hd1 => ?_⟩
      rw [hm1]
      refine ⟨m1, ⟨rfl, rfl, by rw [hl1]; exact hd1⟩, fun d2 hd2 => ?_⟩
      rw [hm2]
      refine ⟨((m2, L, j), k', m'), ⟨rfl, rfl, rfl, rfl, rfl, ⟨hp, hj, by dsimp only; omega, by dsimp only; rw [hl2, ← hl1]; exact hd2⟩, hlk⟩, fun d3 hd3 => ?_⟩
      exact fin_k tt_ok (rs := rs_r32_Insert) rfl rfl (hK d3 hd3) [0, 6] rfl rfl rfl rfl rfl rfl
  · have hjz : j = L.length := by omega
    have hi : insI m at' L = L.length := by rw [hlaw, List.drop_eq_nil_of_le (by omega), insI_nil]; omega
    rw [hi, show (L.length == L.length) = true by simp, cond_true] at hx
    refine ⟨.t (.s (.bool false)), fun β => told_bl (decide_eq_false (by omega)), rfl, ?_⟩
    refine ⟨j, fun h => absurd h (by decide), .int .i32 0, rfl, fun h => absurd h (by decide), ?_⟩
    refine ⟨fun h => absurd h (by decide), fun _ => ?_⟩
    refine ⟨fun h => absurd h (by decide), fun _ => ?_⟩
    refine ⟨fun h => absurd h (by decide), fun _ => ⟨rfl, ?_⟩⟩
    refine ⟨fun h => absurd h (by decide), fun _ => ?_⟩
    refine ⟨.t (.s (.bool (!ok))), fun β => told_bl (by rw [hjz]; simp), rfl, ?_⟩
    refine ⟨fun h3 => ?_, fun h3 => ?_⟩
    · rw [h3, cond_true] at hx
      cases hx
      refine WpE.into (aliasSlot 11 0 0 m.l.length cap rfl rfl) ?_
      refine fin_k tt_ok (rs := rs_r32_Insert) rfl rfl (hK cap hc) [0, 4] rfl ?_ rfl rfl rfl rfl
      rw [seg_all]; rfl
    · rw [h3, cond_false, show L.getD L.length NP = -2147483648 by rw [List.getD_eq_getElem?_getD, List.getElem?_eq_none (Nat.le_refl _)]; rfl, ← hjz] at hx
      refine ⟨fun h => absurd h (by rw [decide_eq_false (show ¬ (j : Int) < (L.length : Int) by omega)]; decide), fun _ => ?_⟩
      obtain ⟨m1, hm1⟩ : ∃ m1, m.set (IntKind.i32.wrap (w + IntKind.i32.wrap (4 * -5))) at' = m1 := ⟨_, rfl⟩
      obtain ⟨m2, hm2⟩ : ∃ m2, m1.set (IntKind.i32.wrap (w + IntKind.i32.wrap (4 * -4))) (-2147483648) = m2 := ⟨_, rfl⟩
      have hA : insA m w at' (-2147483648) = m2 := by
        unfold insA
        rw [← hm2, ← hm1, show IntKind.i32.wrap (4 * -5) = -20 by decide, show IntKind.i32.wrap (4 * -4) = -16 by decide]
      have hl1 : m1.l.length = m.l.length := by rw [← hm1, set_len]
      have hl2 : m2.l.length = m.l.length := by rw [← hm2, set_len, hl1]
      obtain ⟨⟨kk, mm⟩, hlk⟩ : ∃ r, lnkR k m2 L j (p == 1) w = r := ⟨_, rfl⟩
      rw [hA, hlk] at hx
      have hx' : (kk, (0 : Int), mm) = (k', e', m') := hx
      cases hx'
      refine ⟨m, ⟨rfl, rfl, hc⟩, fun d1 hd1 => ?_⟩
      rw [hm1]
      refine ⟨m1, ⟨rfl, rfl, by rw [hl1]; exact hd1⟩, fun d2 hd2 => ?_⟩
      rw [hm2]
      refine ⟨((m2, L, j), k', m'), ⟨rfl, rfl, rfl, rfl, rfl, ⟨hp, hj, by dsimp only; omega, by dsimp only; rw [hl2, ← hl1]; exact hd2⟩, hlk⟩, fun d3 hd3 => ?_⟩
      exact fin_k tt_ok (rs := rs_r32_Insert) rfl rfl (hK d3 hd3) [0, 6] rfl rfl rfl rfl rfl rfl
noncomputable abbrev eRInsert : Ent := .st (conS (P := Try.prog) (f := f_r32_Insert) fun cargs σ0 => match cargs, σ0 with
  | [.agg cs, .s (.sl 0 0 n cap), .s (.int .i32 w), .s (.int .i32 at'), .s (.int .i64 p)], [.view xs] => withCore cs fun k hk => some ⟨.ex (Ram × Core × Int × Ram) fun q => .ask (n = q.1.l.length ∧ xs = bytesI q.1.l ∧ (k.ok ∧ I32 w ∧ q.1.l.length ≤ cap) ∧ tinR k q.1 w at' p = q.2) (RES q.1 q.2.2.2 q.2.1 q.2.2.1), fun K h => by
      obtain ⟨⟨m, k', e', m'⟩, ⟨e1, e2, ⟨h1, h2, h3⟩, h4⟩, h⟩ := h
      dsimp only at e1 e2 h3 h4 h
      subst e1; subst e2; subst hk
      exact RInsert_c k m cap w at' p k' e' m' h1 h2 h3 h4 K h⟩
  | _, _ => none)
end Go.Proofs

namespace Go.Proofs
open Go Go.Sx
set_option maxRecDepth 10000
/-- Remove, over the list. -/
theorem trmR_wlk {k : Core} {m : Ram} {w p : Int} {L : List Int} {ok : Bool} (hl : wlk queN m (k.tm (p == 1)) = (L, ok)) (hp : (!priB p) = false) :
    trmR k m w p = bif remI w L == L.length then (bif ok then (.zero, 6, m) else (.zero, 4, m)) else ((lnkR k m L (remI w L) (p == 1) (m.word (IntKind.i32.wrap (w + -16)))).1, 0, (lnkR k m L (remI w L) (p == 1) (m.word (IntKind.i32.wrap (w + -16)))).2) := by
  unfold trmR remR
  rw [hp, cond_false, remL_wlk, hl]
  cases hc : (remI w L == L.length)
  · rw [cond_false, cond_false]
    unfold remE lnkR lnkK lnkM
    cases hi : remI w L with
    | zero => rfl
    | succ i =>
      have hil : i < L.length := by have := remI_le w L; omega
      have hg : (NP :: L).getD (i + 1) 0 = L[i] := by rw [List.getD_cons_succ, List.getD_eq_getElem?_getD, List.getElem?_eq_getElem hil]; rfl
      have hg2 : L.getD (i + 1 - 1) 0 = L[i] := by rw [Nat.add_sub_cancel, List.getD_eq_getElem?_getD, List.getElem?_eq_getElem hil]; rfl
      have hne : (L[i] == NP) = false := by
        have hm := wlk_mem queN (k.tm (p == 1)) (m := m) L[i] (by rw [hl]; exact List.getElem_mem hil)
        cases hn : (L[i] == NP)
        · rfl
        · rw [show L[i] = NP by simpa using hn, NP_bad] at hm; cases hm
      simp only [hg, hg2, hne]
      rfl
  · rw [cond_true, cond_true]
    cases ok <;> rfl
noncomputable abbrev ctRRm : CT := [(f_r29_Word, eRWord9), (f_r32_walk, eRwalk), (f_r32_link, eRlink)]
theorem ctRRm_ok : CTok Try.prog ctRRm := ⟨con_ok cal_r29_Word _, con_ok cal_r32_walk _, con_ok cal_r32_link _, trivial⟩
theorem remI_nil (w : Int) : remI w [] = 0 := rfl
theorem remI_cons {w x : Int} {l : List Int} : remI w (x :: l) = bif x == w then 0 else remI w l + 1 := by
  unfold remI
  cases h : (x == w)
  · rw [List.takeWhile_cons_of_pos (by rw [h]; rfl)]; rfl
  · rw [List.takeWhile_cons_of_neg (by rw [h]; decide)]; rfl
set_option maxHeartbeats 4000000 in
theorem RRemove_c (k : Core) (m : Ram) (cap : Nat) (w p : Int) (k' : Core) (e' : Int) (m' : Ram) (hok : k.ok) (hc : m.l.length ≤ cap) (hx : trmR k m w p = (k', e', m')) :
    Con Try.prog f_r32_Remove [.agg k.sv, .s (.sl 0 0 m.l.length cap), .s (.int .i32 w), .s (.int .i64 p)] [.view (bytesI m.l)] (RES m m' k' e') := by
  intro K hK
  refine enter fn_r32_Remove rfl nt_r32_Remove rfl rfl (fun φ w0 β0 F => ?_)
  refine c_run tt_ok ctRRm_ok k_r32_Remove [] 90 (by kernel_rfl) ?_
  refine ⟨fun h => ?_, fun h => ?_⟩
  · rw [priB_not] at h
    unfold trmR at hx
    rw [h, cond_true] at hx
    cases hx
    refine WpE.into (aliasSlot 9 0 0 m.l.length cap rfl rfl) ?_
    refine fin_k tt_ok (rs := rs_r32_Remove) rfl rfl (hK cap hc) [0, 3] rfl ?_ rfl rfl rfl rfl
    rw [seg_all]; rfl
  rw [priB_not] at h
  have hp := priB_two h
  obtain ⟨⟨L, ok⟩, hl⟩ : ∃ r, wlk queN m (k.tm (p == 1)) = r := ⟨_, rfl⟩
  rw [trmR_wlk hl h] at hx
  have hLn : L.length ≤ 1024 := by
    have := wlk_len (m := m) 1024 (k.tm (p == 1))
    rw [← show queN = 1024 + 1 from queN_eq, hl] at this
    exact this
  refine ⟨(m, L, ok), ⟨rfl, rfl, ⟨hok, hp⟩, hl⟩, fun cl hcl => ?_⟩
  show WpC _ _ _ _ _
  refine c_freeze 3 rfl rfl ?_
  refine c_loop (α := Nat) (fun j => j ≤ L.length ∧ remI w L = j + remI w (L.drop j)) (fun j => L.length - j)
    (fun j => [(1, .t (.s (.sl 0 0 m.l.length cap)), none), (2, .t (.s (.int .i32 w)), none), (3, .t (.s (.int .i64 p)), none), (4, .t (.s (.loc 1 0)), none), (8, .t (.s (.loc 2 0)), none), (11, .t (.s (.sl 3 0 L.length cl)), none), (12, .t (.s (.bool ok)), none), (13, .t (.s (.int .i64 (j : Int))), none)])
    (fun _ => [.view (bytesI m.l), .blk 26 k.sv, .blk 26 Core.zero.sv, .view (qV L)]) 0 ⟨Nat.zero_le _, by simp⟩ ?_ ?_
  · exact into [0, 1, 2, 3] ⟨⟨_, rfl, rfl⟩, ⟨_, rfl, rfl⟩, ⟨_, rfl, rfl⟩, ⟨_, rfl, rfl⟩, ⟨_, rfl, rfl⟩, ⟨_, rfl, rfl⟩, ⟨_, rfl, rfl⟩, ⟨_, rfl, rfl⟩, trivial⟩ ⟨_, rfl, rfl⟩ rfl rfl rfl rfl
  rintro j ⟨hj, hlaw⟩
  refine c_run' tt_ok ctRRm_ok k_r32_Remove [100034, 100051, 100047, 100057] 90 (by kernel_rfl) (by kernel_rfl) ?_
  by_cases hjl : j < L.length
  · have hx0 : L.getD j 0 = L[j] := by rw [List.getD_eq_getElem?_getD, List.getElem?_eq_getElem hjl]; rfl
    have hat : (qV L)[0 + j * (0 + 1)]? = some (.int .i32 (L.getD j 0)) := by
      rw [show 0 + j * (0 + 1) = j by omega]
      exact qV_at (by rw [List.getD_eq_getElem?_getD, List.getElem?_eq_getElem hjl]; rfl)
    have hcons : remI w (L.drop j) = bif L.getD j 0 == w then 0 else remI w (L.drop (j + 1)) + 1 := by
      rw [List.drop_eq_getElem_cons hjl, remI_cons, hx0]
    have hjb : ((j : Int) == (L.length : Int)) = false := by simp; omega
    refine ⟨.t (.s (.bool true)), fun β => told_tr (decide_eq_true (by omega)), rfl, ?_⟩
    refine ⟨j, fun _ => ⟨rfl, hjl, by rw [qV_len, Nat.zero_add, Nat.zero_add, Nat.mul_one]; omega⟩, .int .i32 (L.getD j 0), rfl, fun _ => hat, ?_⟩
    refine ⟨fun h3 => ?_, fun h3 => ?_⟩
    · have ha : (L.getD j 0 == w) = false := by
        have h4 : (bif true then (L.getD j 0 != w) else false) = true := h3
        simpa using h4
      rw [ha, cond_false] at hcons
      exact e_again (j + 1) ⟨hjl, by omega⟩ (by omega) (into [0, 1, 2, 3] ⟨⟨_, rfl, rfl⟩, ⟨_, rfl, rfl⟩, ⟨_, rfl, rfl⟩, ⟨_, rfl, rfl⟩, ⟨_, rfl, rfl⟩, ⟨_, rfl, rfl⟩, ⟨_, rfl, rfl⟩, ⟨_, rfl, fvi (wrapSucc (by omega))⟩, trivial⟩ ⟨_, rfl, rfl⟩ rfl rfl rfl rfl)
    · have ha : (L.getD j 0 == w) = true := by
        have h4 : (bif true then (L.getD j 0 != w) else false) = false := h3
        simpa using h4
      rw [ha, cond_true] at hcons
      have hi : remI w L = j := by omega
      rw [hi, show (j == L.length) = false by simp; omega, cond_false] at hx
      obtain ⟨⟨kk, mm⟩, hlk⟩ : ∃ r, lnkR k m L j (p == 1) (m.word (IntKind.i32.wrap (w + -16))) = r := ⟨_, rfl⟩
      rw [hlk] at hx
      have hx' : (kk, (0 : Int), mm) = (k', e', m') := hx
      cases hx'
      refine ⟨.t (.s (.bool false)), fun β => told_bl hjb, rfl, ?_⟩
      refine ⟨.t (.s (.bool false)), fun β => told_bl rfl, rfl, ?_⟩
      refine ⟨fun h => absurd h (by decide), fun _ => ?_⟩
      refine ⟨.t (.s (.bool false)), fun β => told_bl hjb, rfl, ?_⟩
      refine ⟨fun h => absurd h (by decide), fun _ => ?_⟩
      show WpC _ _ _ _ _
      refine c_waysH tt_ok ctRRm_ok k_r32_Remove [] rfl rfl rfl ?_
      repeat' (first | exact trivial | exact ⟨rfl, trivial⟩ | (refine Exists.intro m ?_; refine And.intro ⟨rfl, rfl⟩ ?_) | (refine Exists.intro ((m, L, j), k', m') ?_; refine And.intro ⟨rfl, rfl, rfl, rfl, rfl, ⟨hp, hj, by dsimp only; omega, hc⟩, hlk⟩ ?_) | (refine And.intro ?_ ?_) | (refine fun _ => ?_))
      all_goals
        refine e_run tt_ok ctRRm_ok k_r32_Remove [] 60 (by kernel_rfl) ?_
        exact fin_k tt_ok (rs := rs_r32_Remove) rfl rfl (hK _ (by assumption)) [0, 4] rfl rfl rfl rfl rfl rfl
  · have hjz : j = L.length := by omega
    have hi : remI w L = L.length := by rw [hlaw, List.drop_eq_nil_of_le (by omega), remI_nil]; omega
    rw [hi, show (L.length == L.length) = true by simp, cond_true] at hx
    refine ⟨.t (.s (.bool false)), fun β => told_bl (decide_eq_false (by omega)), rfl, ?_⟩
    refine ⟨j, fun h => absurd h (by decide), .int .i32 0, rfl, fun h => absurd h (by decide), ?_⟩
    have hjb : ((j : Int) == (L.length : Int)) = true := by simp; omega
    refine ⟨fun h => absurd h (by simp), fun _ => ?_⟩
    refine ⟨.t (.s (.bool true)), fun β => told_tr hjb, rfl, ?_⟩
    refine ⟨.t (.s (.bool (!ok))), fun β => told_bl rfl, rfl, ?_⟩
    refine ⟨fun h3 => ?_, fun h3 => ?_⟩
    · rw [show ok = false by simpa using h3, cond_false] at hx
      cases hx
      refine WpE.into (aliasSlot 9 0 0 m.l.length cap rfl rfl) ?_
      refine fin_k tt_ok (rs := rs_r32_Remove) rfl rfl (hK cap hc) [0, 4] rfl ?_ rfl rfl rfl rfl
      rw [seg_all]; rfl
    · rw [show ok = true by simpa using h3, cond_true] at hx
      cases hx
      refine ⟨.t (.s (.bool true)), fun β => told_tr hjb, rfl, ?_⟩
      refine ⟨fun _ => ?_, fun h => absurd h (by decide)⟩
      refine WpE.into (aliasSlot 9 0 0 m.l.length cap rfl rfl) ?_
      refine fin_k tt_ok (rs := rs_r32_Remove) rfl rfl (hK cap hc) [0, 4] rfl ?_ rfl rfl rfl rfl
      rw [seg_all]; rfl
noncomputable abbrev eRRemove : Ent := .st (conS (P := Try.prog) (f := f_r32_Remove) fun cargs σ0 => match cargs, σ0 with
  | [.agg cs, .s (.sl 0 0 n cap), .s (.int .i32 w), .s (.int .i64 p)], [.view xs] => withCore cs fun k hk => some ⟨.ex (Ram × Core × Int × Ram) fun q => .ask (n = q.1.l.length ∧ xs = bytesI q.1.l ∧ (k.ok ∧ q.1.l.length ≤ cap) ∧ trmR k q.1 w p = q.2) (RES q.1 q.2.2.2 q.2.1 q.2.2.1), fun K h => by
      obtain ⟨⟨m, k', e', m'⟩, ⟨e1, e2, ⟨h1, h2⟩, h4⟩, h⟩ := h
      dsimp only at e1 e2 h2 h4 h
      subst e1; subst e2; subst hk
      exact RRemove_c k m cap w p k' e' m' h1 h2 h4 K h⟩
  | _, _ => none)
end Go.Proofs

namespace Go.Proofs
open Go Go.Sx
set_option maxRecDepth 10000
def dueB (k : Core) (m : Ram) (o : Bool) : Bool := bif k.tm o == NP then false else bif !validB m (k.tm o) then true else !aftB (m.word (IntKind.i32.wrap (k.tm o + -20))) (k.ck o)
noncomputable abbrev ctRDu : CT := [(f_r29_Valid, eRValid), (f_r29_Word, eRWord9), (f_r32_After, .pure spAfter)]
theorem ctRDu_ok : CTok Try.prog ctRDu := ⟨con_ok cal_r29_Valid _, con_ok cal_r29_Word _, ceRAfter, trivial⟩
set_option maxHeartbeats 1000000 in
theorem Rdue_c (k : Core) (m : Ram) (cap : Nat) (p : Int) (hok : k.ok) (hp : p = 0 ∨ p = 1) : Con Try.prog f_r32_due [.agg k.sv, .s (.sl 0 0 m.l.length cap), .s (.int .i64 p)] [.view (bytesI m.l)] (.ret (.t (.s (.bool (dueB k m (p == 1))))) [.view (bytesI m.l)]) := by
  intro K hK
  have ht : ∀ o, I32 (k.tm o) := fun o => by cases o; exact hok.t0; exact hok.t1
  rcases hp with rfl | rfl
  · have hd : dueB k m ((0 : Int) == 1) = bif k.t0 == NP then false else bif !validB m k.t0 then true else !aftB (m.word (IntKind.i32.wrap (k.t0 + -20))) k.k0 := rfl
    rw [hd] at hK
    refine enter fn_r32_due rfl nt_r32_due rfl rfl (fun φ w0 β0 F => ?_)
    refine c_run tt_ok ctRDu_ok k_r32_due [] 60 (by kernel_rfl) ?_
    refine ⟨fun h => ?_, fun h => ?_⟩
    · rw [show (k.t0 == NP) = true from h, cond_true] at hK
      exact fin_k tt_ok (rs := rs_r32_due) rfl rfl hK [0] rfl rfl rfl rfl rfl rfl
    rw [show (k.t0 == NP) = false from h, cond_false] at hK
    show WpC _ _ _ _ _
    refine c_waysH tt_ok ctRDu_ok k_r32_due [1] rfl rfl rfl ?_
    have hI : I32 k.t0 := hok.t0
    repeat' (first | exact trivial | exact ⟨rfl, trivial⟩ | (refine Exists.intro m ?_; refine And.intro ⟨rfl, rfl, hI⟩ ?_) | (refine Exists.intro m ?_; refine And.intro ⟨rfl, rfl⟩ ?_) | (refine And.intro ?_ ?_) | (refine fun _ => ?_))
    all_goals first
      | assumption
      | (refine e_run tt_ok ctRDu_ok k_r32_due [] 60 (by kernel_rfl) ?_
         exact fin_k tt_ok (rs := rs_r32_due) rfl rfl hK [0] rfl rfl rfl rfl rfl rfl)
      | (refine e_run tt_ok ctRDu_ok k_r32_due [] 60 (by kernel_rfl) ?_
         rename_i hgu
         rw [hgu] at hK
         exact fin_k tt_ok (rs := rs_r32_due) rfl rfl hK [0] rfl rfl rfl rfl rfl rfl)
      | (exfalso; simp_all; done)
  · have hd : dueB k m ((1 : Int) == 1) = bif k.t1 == NP then false else bif !validB m k.t1 then true else !aftB (m.word (IntKind.i32.wrap (k.t1 + -20))) k.k1 := rfl
    rw [hd] at hK
    refine enter fn_r32_due rfl nt_r32_due rfl rfl (fun φ w0 β0 F => ?_)
    refine c_run tt_ok ctRDu_ok k_r32_due [] 60 (by kernel_rfl) ?_
    refine ⟨fun h => ?_, fun h => ?_⟩
    · rw [show (k.t1 == NP) = true from h, cond_true] at hK
      exact fin_k tt_ok (rs := rs_r32_due) rfl rfl hK [0] rfl rfl rfl rfl rfl rfl
    rw [show (k.t1 == NP) = false from h, cond_false] at hK
    show WpC _ _ _ _ _
    refine c_waysH tt_ok ctRDu_ok k_r32_due [1] rfl rfl rfl ?_
    have hI : I32 k.t1 := hok.t1
    repeat' (first | exact trivial | exact ⟨rfl, trivial⟩ | (refine Exists.intro m ?_; refine And.intro ⟨rfl, rfl, hI⟩ ?_) | (refine Exists.intro m ?_; refine And.intro ⟨rfl, rfl⟩ ?_) | (refine And.intro ?_ ?_) | (refine fun _ => ?_))
    all_goals first
      | assumption
      | (refine e_run tt_ok ctRDu_ok k_r32_due [] 60 (by kernel_rfl) ?_
         exact fin_k tt_ok (rs := rs_r32_due) rfl rfl hK [0] rfl rfl rfl rfl rfl rfl)
      | (refine e_run tt_ok ctRDu_ok k_r32_due [] 60 (by kernel_rfl) ?_
         rename_i hgu
         rw [hgu] at hK
         exact fin_k tt_ok (rs := rs_r32_due) rfl rfl hK [0] rfl rfl rfl rfl rfl rfl)
      | (exfalso; simp_all; done)
noncomputable abbrev eRdue : Ent := .st (conS (P := Try.prog) (f := f_r32_due) fun cargs σ0 => match cargs, σ0 with
  | [.agg cs, .s (.sl 0 0 n cap), .s (.int .i64 p)], [.view xs] => withCore cs fun k hk => some ⟨.ex Ram fun m => .ask (n = m.l.length ∧ xs = bytesI m.l ∧ (k.ok ∧ (p = 0 ∨ p = 1))) (.ret (.t (.s (.bool (dueB k m (p == 1))))) [.view (bytesI m.l)]), fun K h => by
      obtain ⟨m, ⟨e1, e2, h1, h2⟩, h⟩ := h
      subst e1; subst e2; subst hk
      exact Rdue_c k m cap p h1 h2 K h⟩
  | _, _ => none)
/-- What the reference's wake returns. -/
def wkM (k : Core) (m : Ram) (o : Bool) : Ram := (m.set (IntKind.i32.wrap (k.tm o + -16)) tSet).set (IntKind.i32.wrap (k.tm o + -20)) (k.ck o)
def wkeR (k : Core) (m : Ram) (p : Int) : Core × Int × Ram :=
  bif !validB m (k.tm (p == 1)) then (.zero, 4, m)
  else bif (wkM k m (p == 1)).word (IntKind.i32.wrap (k.tm (p == 1) + -12)) != -2147483646 then (k.setT (p == 1) (m.word (IntKind.i32.wrap (k.tm (p == 1) + -16))), 0, wkM k m (p == 1))
  else appR (k.setT (p == 1) (m.word (IntKind.i32.wrap (k.tm (p == 1) + -16)))) ((wkM k m (p == 1)).set (IntKind.i32.wrap (k.tm (p == 1) + -12)) (-2147483645)) (IntKind.i32.wrap (k.tm (p == 1) + IntKind.i32.wrap p))
theorem wake_rel {k : Core} {m : Ram} {p : Int} (hv : validB m (k.tm (p == 1)) = true) : wakR k m p = wakE (wkeR k m p) := by
  unfold wakR wkeR
  rw [hv]
  show _ = wakE (bif false then _ else bif (wkM k m (p == 1)).word (IntKind.i32.wrap (k.tm (p == 1) + -12)) != -2147483646 then _ else _)
  rw [cond_false]
  show (bif (wkM k m (p == 1)).word (IntKind.i32.wrap (k.tm (p == 1) + -12)) != -2147483646 then _ else _) = _
  cases ((wkM k m (p == 1)).word (IntKind.i32.wrap (k.tm (p == 1) + -12)) != -2147483646) <;> rfl
noncomputable abbrev ctRWa : CT := [(f_r29_Valid, eRValid), (f_r29_Word, eRWord9), (f_r29_Set, eRSet), (f_r29_Append, eRAppend)]
theorem ctRWa_ok : CTok Try.prog ctRWa := ⟨con_ok cal_r29_Valid _, con_ok cal_r29_Word _, con_ok cal_r29_Set _, con_ok cal_r29_Append _, trivial⟩
set_option maxHeartbeats 2000000 in
theorem Rwake_0 (k : Core) (m : Ram) (cap : Nat) (k' : Core) (e' : Int) (m' : Ram) (hok : k.ok) (hc : m.l.length ≤ cap) (hx : wkeR k m 0 = (k', e', m')) : Con Try.prog f_r32_wake [.agg k.sv, .s (.sl 0 0 m.l.length cap), .s (.int .i64 0)] [.view (bytesI m.l)] (RES m m' k' e') := by
  intro K hK
  have hI : I32 k.t0 := hok.t0
  obtain ⟨m1, hm1⟩ : ∃ m1, m.set (IntKind.i32.wrap (k.t0 + IntKind.i32.wrap (4 * -4))) (-2147483647) = m1 := ⟨_, rfl⟩
  obtain ⟨m2, hm2⟩ : ∃ m2, m1.set (IntKind.i32.wrap (k.t0 + IntKind.i32.wrap (4 * -5))) k.k0 = m2 := ⟨_, rfl⟩
  obtain ⟨m3, hm3⟩ : ∃ m3, m2.set (IntKind.i32.wrap (k.t0 + IntKind.i32.wrap (4 * -3))) (-2147483645) = m3 := ⟨_, rfl⟩
  have hl1 : m1.l.length = m.l.length := by rw [← hm1, set_len]
  have hl2 : m2.l.length = m.l.length := by rw [← hm2, set_len, hl1]
  have hl3 : m3.l.length = m.l.length := by rw [← hm3, set_len, hl2]
  have e4 : IntKind.i32.wrap (4 * -4) = -16 := by decide
  have e5 : IntKind.i32.wrap (4 * -5) = -20 := by decide
  have e3 : IntKind.i32.wrap (4 * -3) = -12 := by decide
  have hM : wkM k m false = m2 := by rw [← hm2, ← hm1, e4, e5]; rfl
  obtain ⟨kk, hkk⟩ : ∃ kk, k.setT false (m.word (IntKind.i32.wrap (k.t0 + IntKind.i32.wrap (4 * -4)))) = kk := ⟨_, rfl⟩
  have hkk' : k.setT false (m.word (IntKind.i32.wrap (k.t0 + -16))) = kk := by rw [← hkk, e4]
  have hkok : kk.ok := by rw [← hkk]; exact Core.setT_ok hok _ (word_I32 _ _)
  have hR : wkeR k m 0 = bif !validB m k.t0 then (.zero, 4, m) else bif m2.word (IntKind.i32.wrap (k.t0 + -12)) != -2147483646 then (kk, 0, m2) else appR kk m3 (IntKind.i32.wrap (k.t0 + IntKind.i32.wrap 0)) := by
    have h0 : wkeR k m 0 = bif !validB m k.t0 then (.zero, 4, m) else bif (wkM k m false).word (IntKind.i32.wrap (k.t0 + -12)) != -2147483646 then (k.setT false (m.word (IntKind.i32.wrap (k.t0 + -16))), 0, wkM k m false)
      else appR (k.setT false (m.word (IntKind.i32.wrap (k.t0 + -16)))) ((wkM k m false).set (IntKind.i32.wrap (k.t0 + -12)) (-2147483645)) (IntKind.i32.wrap (k.t0 + IntKind.i32.wrap 0)) := rfl
    rw [h0, hM, hkk', ← hm3, e3]
  rw [hR] at hx
  refine enter fn_r32_wake rfl nt_r32_wake rfl rfl (fun φ w0 β0 F => ?_)
  refine c_run tt_ok ctRWa_ok k_r32_wake [] 60 (by kernel_rfl) ?_
  refine ⟨m, ⟨rfl, rfl, hI⟩, fun h => ?_, fun h => ?_⟩
  · rw [show (!validB m k.t0) = true from h, cond_true] at hx
    cases hx
    refine WpE.into (aliasSlot 7 0 0 m.l.length cap rfl rfl) ?_
    refine fin_k tt_ok (rs := rs_r32_wake) rfl rfl (hK cap hc) [0, 3] rfl ?_ rfl rfl rfl rfl
    rw [seg_all]; rfl
  rw [show (!validB m k.t0) = false from h, cond_false] at hx
  refine ⟨m, ⟨rfl, rfl⟩, ?_⟩
  subst hkk
  refine ⟨m, ⟨rfl, rfl, hc⟩, fun d1 hd1 => ?_⟩
  rw [hm1]
  refine ⟨m1, ⟨rfl, rfl, by rw [hl1]; exact hd1⟩, fun d2 hd2 => ?_⟩
  rw [hm2]
  have hd2' : m2.l.length ≤ d2 := by rw [hl2, ← hl1]; exact hd2
  refine ⟨m2, ⟨rfl, rfl⟩, ?_⟩
  refine ⟨fun h3 => ?_, fun h3 => ?_⟩
  · rw [e3] at h3
    rw [show (m2.word (IntKind.i32.wrap (k.t0 + -12)) != -2147483646) = true from h3, cond_true] at hx
    cases hx
    exact fin_k tt_ok (rs := rs_r32_wake) rfl rfl (hK d2 hd2') [0, 4] rfl rfl rfl rfl rfl rfl
  · rw [e3] at h3
    rw [show (m2.word (IntKind.i32.wrap (k.t0 + -12)) != -2147483646) = false from h3, cond_false] at hx
    refine ⟨m2, ⟨rfl, rfl, hd2'⟩, fun d3 hd3 => ?_⟩
    rw [hm3]
    refine ⟨(m3, k', e', m'), ⟨rfl, rfl, ⟨hkok, I32_wrap _, by dsimp only; rw [hl3, ← hl2]; exact hd3⟩, hx⟩, fun d4 hd4 => ?_⟩
    exact fin_k tt_ok (rs := rs_r32_wake) rfl rfl (hK d4 hd4) [0, 6] rfl rfl rfl rfl rfl rfl
set_option maxHeartbeats 2000000 in
theorem Rwake_1 (k : Core) (m : Ram) (cap : Nat) (k' : Core) (e' : Int) (m' : Ram) (hok : k.ok) (hc : m.l.length ≤ cap) (hx : wkeR k m 1 = (k', e', m')) : Con Try.prog f_r32_wake [.agg k.sv, .s (.sl 0 0 m.l.length cap), .s (.int .i64 1)] [.view (bytesI m.l)] (RES m m' k' e') := by
  intro K hK
  have hI : I32 k.t1 := hok.t1
  obtain ⟨m1, hm1⟩ : ∃ m1, m.set (IntKind.i32.wrap (k.t1 + IntKind.i32.wrap (4 * -4))) (-2147483647) = m1 := ⟨_, rfl⟩
  obtain ⟨m2, hm2⟩ : ∃ m2, m1.set (IntKind.i32.wrap (k.t1 + IntKind.i32.wrap (4 * -5))) k.k1 = m2 := ⟨_, rfl⟩
  obtain ⟨m3, hm3⟩ : ∃ m3, m2.set (IntKind.i32.wrap (k.t1 + IntKind.i32.wrap (4 * -3))) (-2147483645) = m3 := ⟨_, rfl⟩
  have hl1 : m1.l.length = m.l.length := by rw [← hm1, set_len]
  have hl2 : m2.l.length = m.l.length := by rw [← hm2, set_len, hl1]
  have hl3 : m3.l.length = m.l.length := by rw [← hm3, set_len, hl2]
  have e4 : IntKind.i32.wrap (4 * -4) = -16 := by decide
  have e5 : IntKind.i32.wrap (4 * -5) = -20 := by decide
  have e3 : IntKind.i32.wrap (4 * -3) = -12 := by decide
  have hM : wkM k m true = m2 := by rw [← hm2, ← hm1, e4, e5]; rfl
  obtain ⟨kk, hkk⟩ : ∃ kk, k.setT true (m.word (IntKind.i32.wrap (k.t1 + IntKind.i32.wrap (4 * -4)))) = kk := ⟨_, rfl⟩
  have hkk' : k.setT true (m.word (IntKind.i32.wrap (k.t1 + -16))) = kk := by rw [← hkk, e4]
  have hkok : kk.ok := by rw [← hkk]; exact Core.setT_ok hok _ (word_I32 _ _)
  have hR : wkeR k m 1 = bif !validB m k.t1 then (.zero, 4, m) else bif m2.word (IntKind.i32.wrap (k.t1 + -12)) != -2147483646 then (kk, 0, m2) else appR kk m3 (IntKind.i32.wrap (k.t1 + IntKind.i32.wrap 1)) := by
    have h0 : wkeR k m 1 = bif !validB m k.t1 then (.zero, 4, m) else bif (wkM k m true).word (IntKind.i32.wrap (k.t1 + -12)) != -2147483646 then (k.setT true (m.word (IntKind.i32.wrap (k.t1 + -16))), 0, wkM k m true)
      else appR (k.setT true (m.word (IntKind.i32.wrap (k.t1 + -16)))) ((wkM k m true).set (IntKind.i32.wrap (k.t1 + -12)) (-2147483645)) (IntKind.i32.wrap (k.t1 + IntKind.i32.wrap 1)) := rfl
    rw [h0, hM, hkk', ← hm3, e3]
  rw [hR] at hx
  refine enter fn_r32_wake rfl nt_r32_wake rfl rfl (fun φ w0 β0 F => ?_)
  refine c_run tt_ok ctRWa_ok k_r32_wake [] 60 (by kernel_rfl) ?_
  refine ⟨m, ⟨rfl, rfl, hI⟩, fun h => ?_, fun h => ?_⟩
  · rw [show (!validB m k.t1) = true from h, cond_true] at hx
    cases hx
    refine WpE.into (aliasSlot 7 0 0 m.l.length cap rfl rfl) ?_
    refine fin_k tt_ok (rs := rs_r32_wake) rfl rfl (hK cap hc) [0, 3] rfl ?_ rfl rfl rfl rfl
    rw [seg_all]; rfl
  rw [show (!validB m k.t1) = false from h, cond_false] at hx
  refine ⟨m, ⟨rfl, rfl⟩, ?_⟩
  subst hkk
  refine ⟨m, ⟨rfl, rfl, hc⟩, fun d1 hd1 => ?_⟩
  rw [hm1]
  refine ⟨m1, ⟨rfl, rfl, by rw [hl1]; exact hd1⟩, fun d2 hd2 => ?_⟩
  rw [hm2]
  have hd2' : m2.l.length ≤ d2 := by rw [hl2, ← hl1]; exact hd2
  refine ⟨m2, ⟨rfl, rfl⟩, ?_⟩
  refine ⟨fun h3 => ?_, fun h3 => ?_⟩
  · rw [e3] at h3
    rw [show (m2.word (IntKind.i32.wrap (k.t1 + -12)) != -2147483646) = true from h3, cond_true] at hx
    cases hx
    exact fin_k tt_ok (rs := rs_r32_wake) rfl rfl (hK d2 hd2') [0, 4] rfl rfl rfl rfl rfl rfl
  · rw [e3] at h3
    rw [show (m2.word (IntKind.i32.wrap (k.t1 + -12)) != -2147483646) = false from h3, cond_false] at hx
    refine ⟨m2, ⟨rfl, rfl, hd2'⟩, fun d3 hd3 => ?_⟩
    rw [hm3]
    refine ⟨(m3, k', e', m'), ⟨rfl, rfl, ⟨hkok, I32_wrap _, by dsimp only; rw [hl3, ← hl2]; exact hd3⟩, hx⟩, fun d4 hd4 => ?_⟩
    exact fin_k tt_ok (rs := rs_r32_wake) rfl rfl (hK d4 hd4) [0, 6] rfl rfl rfl rfl rfl rfl
noncomputable abbrev eRwake : Ent := .st (conS (P := Try.prog) (f := f_r32_wake) fun cargs σ0 => match cargs, σ0 with
  | [.agg cs, .s (.sl 0 0 n cap), .s (.int .i64 p)], [.view xs] => withCore cs fun k hk => some ⟨.ex (Ram × Core × Int × Ram) fun q => .ask (n = q.1.l.length ∧ xs = bytesI q.1.l ∧ (k.ok ∧ (p = 0 ∨ p = 1) ∧ q.1.l.length ≤ cap) ∧ wkeR k q.1 p = q.2) (RES q.1 q.2.2.2 q.2.1 q.2.2.1), fun K h => by
      obtain ⟨⟨m, k', e', m'⟩, ⟨e1, e2, ⟨h1, h2, h3⟩, h4⟩, h⟩ := h
      dsimp only at e1 e2 h3 h4 h
      subst e1; subst e2; subst hk
      rcases h2 with rfl | rfl
      · exact Rwake_0 k m cap k' e' m' h1 h3 h4 K h
      · exact Rwake_1 k m cap k' e' m' h1 h3 h4 K h⟩
  | _, _ => none)
end Go.Proofs
