/- sched.Queue: a range over the chain. -/
import Derived.Test.YtckbmpoomamenaaWalkC
import Derived.Test.YtckbmpoomamenaaSxD

namespace Go.Proofs
open Go Go.Sx
set_option maxRecDepth 10000
def qV (l : List Int) : List Value := l.map fun x => .int .i32 x
theorem qV_app (a b : List Int) : qV (a ++ b) = qV a ++ qV b := List.map_append
theorem qV_len (a : List Int) : (qV a).length = a.length := List.length_map ..
theorem qV_one (l : List Int) : ∀ u ∈ qV l, u.oneCell' = true := fun u hu => by
  obtain ⟨x, _, rfl⟩ := List.mem_map.1 hu; rfl
/-- What sched.Queue finds. -/
def queL : Nat → Ram → Int → Int → List Int → List Int × Int
  | 0, _, _, _, _ => ([], 4)
  | f + 1, m, b, w, L => bif bif !validB m w then true else L.length == 1024 then ([], 4) else bif w == b then (L ++ [w], 0) else queL f m b (m.word (IntKind.i32.wrap (w + -8))) (L ++ [w])
@[irreducible] def queN : Nat := 1025
theorem queN_eq : queN = 1025 := by unfold queN; rfl
def queR (k : Core) (m : Ram) (p : Int) : List Int × Int :=
  bif !priB p then ([], 2) else bif k.fr (p == 1) == NP then ([], 0) else queL queN m (k.bk (p == 1)) (k.fr (p == 1)) []
noncomputable abbrev ctQu : CT := [(f_sched_none, in_sched_none ctSz), (f_sched_valid, eValid), (f_sched_word, in_sched_word ctWo), (f_sched_chain, in_sched_chain [])]
theorem ctQu_ok : CTok Try.prog ctQu := ⟨in_sched_none_ok ctSz_ok, con_ok cal_sched_valid _, in_sched_word_ok ctWo_ok, in_sched_chain_ok (ct := []) trivial, trivial⟩
set_option maxHeartbeats 1000000 in
theorem Queue_c (k : Core) (m : Ram) (p : Int) (hok' : k.ok) (hp : -9223372036854775808 ≤ p ∧ p ≤ 9223372036854775807) : Con Try.prog f_sched_Queue [.agg k.sv, .s (.loc 0 0), .s (.int .i64 p)] [mBox m.l.length, mOwn m.l]
    (.all Nat (fun c => (queR k m p).1.length ≤ c ∧ (c = 0 → (queR k m p).1 = [])) fun c => .ret (.tup [.s (.sl 2 0 (queR k m p).1.length c), .s (.int .i64 (queR k m p).2)]) [mBox m.l.length, mOwn m.l, .own 21 1 c (qV (queR k m p).1)]) := by
  intro K hK
  have h0 := m.lo
  have hc : p = 0 ∨ p = 1 ∨ (p ≠ 0 ∧ p ≠ 1) := by omega
  rcases hc with rfl | rfl | ⟨hp0, hp1⟩
  · have hR : queR k m 0 = bif k.f0 == NP then ([], 0) else queL queN m k.b0 k.f0 [] := by
      unfold queR
      rw [show (!priB 0) = false from rfl, cond_false, show k.fr ((0 : Int) == 1) = k.f0 from rfl, show k.bk ((0 : Int) == 1) = k.b0 from rfl]
    refine enterM fn_sched_Queue rfl nt_sched_Queue rfl rfl (fun φ w0 β0 F => ?_)
    refine c_run tt_ok ctQu_ok k_sched_Queue [] 90 (by kernel_rfl) ?_
    refine ⟨fun h => ?_, fun _ => ⟨fun h => absurd h (by decide), fun _ => ?_⟩⟩
    · exfalso; have := of_decide_eq_true h; omega
    show WpC _ _ _ _ _
    refine c_nil 5 21 1 rfl ?_
    refine WpC.into (fr' := [(6, .t (.s (.loc 3 0)), none), (7, .t (.s (.loc 4 0)), none), (8, .t (.s (.loc 5 0)), none), (19, .t (.clo (.func 54) [] [.loc 6 0, .loc 8 0, .loc 7 0]), none)])
      (σ' := [mBox m.l.length, mOwn m.l, .blk 32 k.sv, .blk 34 [.raw (.slice none 0 0)], .blk 25 [.int .i64 0], .blk 34 [.sl 9 0 0 0], .blk 32 k.sv, .blk 24 [.loc 0 0], .blk 3 [.int .i64 0], .own 21 1 0 []])
      (into [0, 1, 2, 3, 4, 5, 6, 7, 8, 9] ⟨⟨_, rfl, rfl⟩, ⟨_, rfl, rfl⟩, ⟨_, rfl, rfl⟩, ⟨_, rfl, rfl⟩, trivial⟩ ⟨_, rfl, rfl⟩ rfl rfl rfl rfl) ?_
    refine c_range 9 rfl rfl rfl rfl rfl rfl cal_sched_chain_1 fn_sched_chain_1 rfl nt_sched_chain_1 rfl rfl rfl (fun G hok => ?_)
    refine c_run tt_ok ctQu_ok k_sched_chain_1 [] 60 (by kernel_rfl) ?_
    refine ⟨fun h1 => ?_, fun h1 => ?_⟩
    · rw [show (k.f0 == NP) = true from h1, cond_true] at hR
      rw [hR] at hK
      show WpE _ _ _ _ _
      refine it_end hok (.inr rfl) rfl (by simp []) rfl ?_
      refine e_run tt_ok ctQu_ok k_sched_Queue [] 60 (by kernel_rfl) ?_
      show WpE _ _ _ _ _
      refine finM hok rfl (.inr (.inl rfl)) ?_
      exact fin_k tt_ok (rs := rs_sched_Queue) rfl rfl (hK 0 ⟨Nat.le_refl _, fun _ => rfl⟩) [0, 1, 9] rfl rfl rfl rfl rfl rfl
    · rw [show (k.f0 == NP) = false from h1, cond_false] at hR
      show WpC _ _ _ _ _
      refine c_loop (α := Int × List Int × Nat × Nat) (fun x => I32 x.1 ∧ x.2.1.length ≤ x.2.2.1 ∧ (x.2.2.2 + x.2.1.length = 1025 ∧ x.2.1.length ≤ 1024) ∧ queL queN m k.b0 k.f0 [] = queL x.2.2.2 m k.b0 x.1 x.2.1) (fun x => x.2.2.2)
        (fun x => [(0, .t (.s (.raw (.func (.yield G.l) #[] #[]))), none), (1, .t (.s (.loc 6 0)), none), (2, .t (.s (.loc 8 0)), none), (3, .t (.s (.loc 7 0)), none), (5, .t (.s (.int .i32 x.1)), none)])
        (fun x => [mBox m.l.length, mOwn m.l, .blk 32 k.sv, .blk 34 [.raw (.slice none 0 0)], .blk 25 [.int .i64 0], .blk 34 [.sl 9 0 x.2.1.length x.2.2.1], .blk 32 k.sv, .blk 24 [.loc 0 0], .blk 3 [.int .i64 0], .own 21 1 x.2.2.1 (qV x.2.1)]) (k.f0, [], 0, queN) ?_ ?_ ?_
      · exact ⟨hok'.f0, Nat.le_refl _, ⟨queN_eq, Nat.zero_le _⟩, rfl⟩
      · exact into [0, 1, 2, 3, 4, 5, 6, 7, 8, 9] ⟨⟨_, rfl, rfl⟩, ⟨_, rfl, rfl⟩, ⟨_, rfl, rfl⟩, ⟨_, rfl, rfl⟩, ⟨_, rfl, rfl⟩, trivial⟩ ⟨_, rfl, rfl⟩ rfl rfl rfl rfl
      · rintro ⟨w, L, c, f⟩ ⟨hw, hLc, ⟨hf, hL4⟩, hlaw⟩
        simp only at hw hLc hf hL4 hlaw
        obtain ⟨f, rfl⟩ : ∃ f', f = f' + 1 := ⟨f - 1, by omega⟩
        dsimp only
        refine c_run' tt_ok ctQu_ok k_sched_chain_1 [25] 60 (by kernel_rfl) (by kernel_rfl) ?_
        refine ⟨m, ⟨rfl, rfl, rfl, rfl, hw⟩, ?_⟩
        show WpL _ _ _ _ _ _
        refine l_yield hok rfl rfl rfl trivial rfl rfl rfl rfl rfl (fun D => ?_)
        refine c_run tt_ok ctQu_ok k_sched_Queue [] 60 (by kernel_rfl) ?_
        show WpE _ _ _ _ _
        refine rnd_begin hok D ?_
        refine c_run tt_ok ctQu_ok k_sched_Queue [] 60 (by kernel_rfl) ?_
        have e1024 : ((L.length : Int) == 1024) = (L.length == 1024) := by
          cases h : (L.length == 1024) <;> simp at h ⊢ <;> omega
        refine ⟨fun h2 => ?_, fun h2 => ?_⟩
        · have hc : (bif !validB m w then true else L.length == 1024) = true := by rw [← e1024]; exact h2
          rw [queL, hc, cond_true] at hlaw
          rw [hlaw] at hR
          rw [hR] at hK
          show WpE _ _ _ _ _
          refine rnd_end hok D rfl rfl (.inr (.inl ⟨rfl, rfl⟩)) ?_
          refine l_run tt_ok ctQu_ok k_sched_chain_1 [] 60 (by kernel_rfl) (by kernel_rfl) ?_
          refine ⟨fun _ => ?_, fun h => absurd h (by simp)⟩
          show WpE _ _ _ _ _
          refine it_end hok (.inr rfl) rfl (by simp [stOf]) rfl ?_
          refine e_run tt_ok ctQu_ok k_sched_Queue [] 60 (by kernel_rfl) ?_
          show WpE _ _ _ _ _
          refine finM hok rfl (.inr (.inl rfl)) ?_
          refine WpE.into (nilCell 3 21 1 rfl) ?_
          exact fin_k tt_ok (rs := rs_sched_Queue) rfl rfl (hK 0 ⟨Nat.le_refl _, fun _ => rfl⟩) [0, 1, 10] rfl rfl rfl rfl rfl rfl
        · have hc : (bif !validB m w then true else L.length == 1024) = false := by rw [← e1024]; exact h2
          rw [queL, hc, cond_false] at hlaw
          refine ⟨⟨rfl, by rw [qV_len, Nat.mul_one], Nat.le_refl _, fun u hu => ?_, by simp only [maxLen]; omega, by omega⟩, fun c1 hc1 hc2 => ?_⟩
          · rw [List.mem_singleton.1 (List.mem_of_mem_drop (List.mem_of_mem_take hu))]; rfl
          show WpE _ _ _ _ _
          refine rnd_end hok D rfl rfl (.inl ⟨rfl, rfl⟩) ?_
          refine l_run tt_ok ctQu_ok k_sched_chain_1 [] 60 (by kernel_rfl) (by kernel_rfl) ?_
          have hV : validB m w = true := by cases hv : validB m w <;> rw [hv] at hc <;> simp at hc ⊢
          have hlen : L.length ≠ 1024 := by rw [hV] at hc; simpa using hc
          refine ⟨fun h3 => ?_, fun h3 => ?_⟩
          · have hB : (w == k.b0) = true := by rw [hV] at h3; simpa using h3
            rw [hB, cond_true] at hlaw
            rw [hlaw] at hR
            rw [hR] at hK
            show WpE _ _ _ _ _
            refine it_end hok (.inr rfl) rfl (by simp [stOf]) rfl ?_
            refine e_run tt_ok ctQu_ok k_sched_Queue [] 60 (by kernel_rfl) ?_
            show WpE _ _ _ _ _
            refine finM hok rfl (.inr (.inl rfl)) ?_
            refine fin_k tt_ok (rs := rs_sched_Queue) rfl rfl (hK c1 ⟨by simpa using hc1, fun h => by omega⟩) [0, 1, 11] ?_ ?_ rfl rfl rfl rfl
            · rw [show (L ++ [w], (0 : Int)).1.length = L.length + 1 by simp]; rfl
            · dsimp only; rw [qV_app]; rfl
          · have hB : (w == k.b0) = false := by rw [hV] at h3; simpa using h3
            rw [hB, cond_false] at hlaw
            refine ⟨m, ⟨rfl, rfl, rfl, rfl, I32_wrap _⟩, ?_⟩
            refine e_again (m.word (IntKind.i32.wrap (w + -8)), L ++ [w], c1, f) ⟨word_I32 _ _, by simpa using hc1, ⟨by simp only [List.length_append, List.length_singleton]; omega, by simp only [List.length_append, List.length_singleton]; omega⟩, hlaw⟩ (Nat.lt_succ_self f) (into [0, 1, 2, 3, 4, 5, 6, 7, 8, 11] ⟨⟨_, rfl, rfl⟩, ⟨_, rfl, rfl⟩, ⟨_, rfl, rfl⟩, ⟨_, rfl, rfl⟩, ⟨_, rfl, rfl⟩, trivial⟩ ⟨_, rfl, ?_⟩ rfl rfl rfl rfl)
            dsimp only
            rw [qV_app, show L.length + 1 = (L ++ [w]).length by simp]
            rfl
  · have hR : queR k m 1 = bif k.f1 == NP then ([], 0) else queL queN m k.b1 k.f1 [] := by
      unfold queR
      rw [show (!priB 1) = false from rfl, cond_false, show k.fr ((1 : Int) == 1) = k.f1 from rfl, show k.bk ((1 : Int) == 1) = k.b1 from rfl]
    refine enterM fn_sched_Queue rfl nt_sched_Queue rfl rfl (fun φ w0 β0 F => ?_)
    refine c_run tt_ok ctQu_ok k_sched_Queue [] 90 (by kernel_rfl) ?_
    refine ⟨fun h => ?_, fun _ => ⟨fun h => absurd h (by decide), fun _ => ?_⟩⟩
    · exfalso; have := of_decide_eq_true h; omega
    show WpC _ _ _ _ _
    refine c_nil 5 21 1 rfl ?_
    refine WpC.into (fr' := [(6, .t (.s (.loc 3 0)), none), (7, .t (.s (.loc 4 0)), none), (8, .t (.s (.loc 5 0)), none), (19, .t (.clo (.func 54) [] [.loc 6 0, .loc 8 0, .loc 7 0]), none)])
      (σ' := [mBox m.l.length, mOwn m.l, .blk 32 k.sv, .blk 34 [.raw (.slice none 0 0)], .blk 25 [.int .i64 0], .blk 34 [.sl 9 0 0 0], .blk 32 k.sv, .blk 24 [.loc 0 0], .blk 3 [.int .i64 1], .own 21 1 0 []])
      (into [0, 1, 2, 3, 4, 5, 6, 7, 8, 9] ⟨⟨_, rfl, rfl⟩, ⟨_, rfl, rfl⟩, ⟨_, rfl, rfl⟩, ⟨_, rfl, rfl⟩, trivial⟩ ⟨_, rfl, rfl⟩ rfl rfl rfl rfl) ?_
    refine c_range 9 rfl rfl rfl rfl rfl rfl cal_sched_chain_1 fn_sched_chain_1 rfl nt_sched_chain_1 rfl rfl rfl (fun G hok => ?_)
    refine c_run tt_ok ctQu_ok k_sched_chain_1 [] 60 (by kernel_rfl) ?_
    refine ⟨fun h1 => ?_, fun h1 => ?_⟩
    · rw [show (k.f1 == NP) = true from h1, cond_true] at hR
      rw [hR] at hK
      show WpE _ _ _ _ _
      refine it_end hok (.inr rfl) rfl (by simp []) rfl ?_
      refine e_run tt_ok ctQu_ok k_sched_Queue [] 60 (by kernel_rfl) ?_
      show WpE _ _ _ _ _
      refine finM hok rfl (.inr (.inl rfl)) ?_
      exact fin_k tt_ok (rs := rs_sched_Queue) rfl rfl (hK 0 ⟨Nat.le_refl _, fun _ => rfl⟩) [0, 1, 9] rfl rfl rfl rfl rfl rfl
    · rw [show (k.f1 == NP) = false from h1, cond_false] at hR
      show WpC _ _ _ _ _
      refine c_loop (α := Int × List Int × Nat × Nat) (fun x => I32 x.1 ∧ x.2.1.length ≤ x.2.2.1 ∧ (x.2.2.2 + x.2.1.length = 1025 ∧ x.2.1.length ≤ 1024) ∧ queL queN m k.b1 k.f1 [] = queL x.2.2.2 m k.b1 x.1 x.2.1) (fun x => x.2.2.2)
        (fun x => [(0, .t (.s (.raw (.func (.yield G.l) #[] #[]))), none), (1, .t (.s (.loc 6 0)), none), (2, .t (.s (.loc 8 0)), none), (3, .t (.s (.loc 7 0)), none), (5, .t (.s (.int .i32 x.1)), none)])
        (fun x => [mBox m.l.length, mOwn m.l, .blk 32 k.sv, .blk 34 [.raw (.slice none 0 0)], .blk 25 [.int .i64 0], .blk 34 [.sl 9 0 x.2.1.length x.2.2.1], .blk 32 k.sv, .blk 24 [.loc 0 0], .blk 3 [.int .i64 1], .own 21 1 x.2.2.1 (qV x.2.1)]) (k.f1, [], 0, queN) ?_ ?_ ?_
      · exact ⟨hok'.f1, Nat.le_refl _, ⟨queN_eq, Nat.zero_le _⟩, rfl⟩
      · exact into [0, 1, 2, 3, 4, 5, 6, 7, 8, 9] ⟨⟨_, rfl, rfl⟩, ⟨_, rfl, rfl⟩, ⟨_, rfl, rfl⟩, ⟨_, rfl, rfl⟩, ⟨_, rfl, rfl⟩, trivial⟩ ⟨_, rfl, rfl⟩ rfl rfl rfl rfl
      · rintro ⟨w, L, c, f⟩ ⟨hw, hLc, ⟨hf, hL4⟩, hlaw⟩
        simp only at hw hLc hf hL4 hlaw
        obtain ⟨f, rfl⟩ : ∃ f', f = f' + 1 := ⟨f - 1, by omega⟩
        dsimp only
        refine c_run' tt_ok ctQu_ok k_sched_chain_1 [25] 60 (by kernel_rfl) (by kernel_rfl) ?_
        refine ⟨m, ⟨rfl, rfl, rfl, rfl, hw⟩, ?_⟩
        show WpL _ _ _ _ _ _
        refine l_yield hok rfl rfl rfl trivial rfl rfl rfl rfl rfl (fun D => ?_)
        refine c_run tt_ok ctQu_ok k_sched_Queue [] 60 (by kernel_rfl) ?_
        show WpE _ _ _ _ _
        refine rnd_begin hok D ?_
        refine c_run tt_ok ctQu_ok k_sched_Queue [] 60 (by kernel_rfl) ?_
        have e1024 : ((L.length : Int) == 1024) = (L.length == 1024) := by
          cases h : (L.length == 1024) <;> simp at h ⊢ <;> omega
        refine ⟨fun h2 => ?_, fun h2 => ?_⟩
        · have hc : (bif !validB m w then true else L.length == 1024) = true := by rw [← e1024]; exact h2
          rw [queL, hc, cond_true] at hlaw
          rw [hlaw] at hR
          rw [hR] at hK
          show WpE _ _ _ _ _
          refine rnd_end hok D rfl rfl (.inr (.inl ⟨rfl, rfl⟩)) ?_
          refine l_run tt_ok ctQu_ok k_sched_chain_1 [] 60 (by kernel_rfl) (by kernel_rfl) ?_
          refine ⟨fun _ => ?_, fun h => absurd h (by simp)⟩
          show WpE _ _ _ _ _
          refine it_end hok (.inr rfl) rfl (by simp [stOf]) rfl ?_
          refine e_run tt_ok ctQu_ok k_sched_Queue [] 60 (by kernel_rfl) ?_
          show WpE _ _ _ _ _
          refine finM hok rfl (.inr (.inl rfl)) ?_
          refine WpE.into (nilCell 3 21 1 rfl) ?_
          exact fin_k tt_ok (rs := rs_sched_Queue) rfl rfl (hK 0 ⟨Nat.le_refl _, fun _ => rfl⟩) [0, 1, 10] rfl rfl rfl rfl rfl rfl
        · have hc : (bif !validB m w then true else L.length == 1024) = false := by rw [← e1024]; exact h2
          rw [queL, hc, cond_false] at hlaw
          refine ⟨⟨rfl, by rw [qV_len, Nat.mul_one], Nat.le_refl _, fun u hu => ?_, by simp only [maxLen]; omega, by omega⟩, fun c1 hc1 hc2 => ?_⟩
          · rw [List.mem_singleton.1 (List.mem_of_mem_drop (List.mem_of_mem_take hu))]; rfl
          show WpE _ _ _ _ _
          refine rnd_end hok D rfl rfl (.inl ⟨rfl, rfl⟩) ?_
          refine l_run tt_ok ctQu_ok k_sched_chain_1 [] 60 (by kernel_rfl) (by kernel_rfl) ?_
          have hV : validB m w = true := by cases hv : validB m w <;> rw [hv] at hc <;> simp at hc ⊢
          have hlen : L.length ≠ 1024 := by rw [hV] at hc; simpa using hc
          refine ⟨fun h3 => ?_, fun h3 => ?_⟩
          · have hB : (w == k.b1) = true := by rw [hV] at h3; simpa using h3
            rw [hB, cond_true] at hlaw
            rw [hlaw] at hR
            rw [hR] at hK
            show WpE _ _ _ _ _
            refine it_end hok (.inr rfl) rfl (by simp [stOf]) rfl ?_
            refine e_run tt_ok ctQu_ok k_sched_Queue [] 60 (by kernel_rfl) ?_
            show WpE _ _ _ _ _
            refine finM hok rfl (.inr (.inl rfl)) ?_
            refine fin_k tt_ok (rs := rs_sched_Queue) rfl rfl (hK c1 ⟨by simpa using hc1, fun h => by omega⟩) [0, 1, 11] ?_ ?_ rfl rfl rfl rfl
            · rw [show (L ++ [w], (0 : Int)).1.length = L.length + 1 by simp]; rfl
            · dsimp only; rw [qV_app]; rfl
          · have hB : (w == k.b1) = false := by rw [hV] at h3; simpa using h3
            rw [hB, cond_false] at hlaw
            refine ⟨m, ⟨rfl, rfl, rfl, rfl, I32_wrap _⟩, ?_⟩
            refine e_again (m.word (IntKind.i32.wrap (w + -8)), L ++ [w], c1, f) ⟨word_I32 _ _, by simpa using hc1, ⟨by simp only [List.length_append, List.length_singleton]; omega, by simp only [List.length_append, List.length_singleton]; omega⟩, hlaw⟩ (Nat.lt_succ_self f) (into [0, 1, 2, 3, 4, 5, 6, 7, 8, 11] ⟨⟨_, rfl, rfl⟩, ⟨_, rfl, rfl⟩, ⟨_, rfl, rfl⟩, ⟨_, rfl, rfl⟩, ⟨_, rfl, rfl⟩, trivial⟩ ⟨_, rfl, ?_⟩ rfl rfl rfl rfl)
            dsimp only
            rw [qV_app, show L.length + 1 = (L ++ [w]).length by simp]
            rfl
  · have hpp : (!priB p) = true := by unfold priB; simp [hp0, hp1]
    have hR : queR k m p = ([], 2) := by unfold queR; rw [hpp, cond_true]
    rw [hR] at hK
    refine enterM fn_sched_Queue rfl nt_sched_Queue rfl rfl (fun φ w0 β0 F => ?_)
    refine c_run tt_ok ctQu_ok k_sched_Queue [100015] 90 (by kernel_rfl) ?_
    refine ⟨fun h => ?_, fun _ => ⟨.t (.s (.bool (!priB p))), fun β => told_bl (or1B hp), rfl, fun h1 => ?_, fun h1 => absurd (hpp.symm.trans h1) (by decide)⟩⟩
    · exfalso; have := of_decide_eq_true h; omega
    · refine finM0 (.inr rfl) rfl ?_
      refine WpE.into (nilCell 3 21 1 rfl) ?_
      exact fin_k tt_ok (rs := rs_sched_Queue) rfl rfl (hK 0 ⟨Nat.le_refl _, fun _ => rfl⟩) [0, 1, 5] rfl rfl rfl rfl rfl rfl
end Go.Proofs

namespace Go.Proofs
open Go Go.Sx
set_option maxRecDepth 10000
def coreEq (k k2 : Core) : Bool := (k.a == k2.a && (k.b == k2.b && (k.c == k2.c && (k.iptr == k2.iptr && (k.wptr == k2.wptr && (k.pri == k2.pri && (k.busy == k2.busy && (k.err == k2.err && (k.hoe == k2.hoe && (k.halted == k2.halted && (k.f0 == k2.f0 && (k.f1 == k2.f1 && (k.b0 == k2.b0 && (k.b1 == k2.b1 && (k.t0 == k2.t0 && (k.t1 == k2.t1 && (k.k0 == k2.k0 && (k.k1 == k2.k1 && (k.ticks == k2.ticks && (k.slice == k2.slice && (k.sis == k2.sis && (k.sa == k2.sa && (k.sb == k2.sb && (k.sc == k2.sc && (k.siptr == k2.siptr && (k.swptr == k2.swptr && (k.serr == k2.serr && (k.sslice == k2.sslice && true))))))))))))))))))))))))))))
def savZ (k : Core) : Bool := (k.sis == false && (k.sa == 0 && (k.sb == 0 && (k.sc == 0 && (k.siptr == 0 && (k.swptr == 0 && (k.serr == false && (k.sslice == 0 && true))))))))
def badS (k : Core) : Bool := bif bif bif bif bits .or .i64 k.pri 1 != 1 then true else decide (k.ticks < 0) then true else decide (k.ticks > 63) then true else decide (k.slice < 0) then true else decide (k.sslice < 0)
def Core.low (k : Core) : Bool := !(k.f1 == NP)
/-- sched.Settled. -/
def satB (k : Core) : Bool :=
  bif badS k then false
  else bif bif !k.sis then !savZ k else false then false
  else bif bif !k.busy then !coreEq k k.nobody else false then false
  else bif bif k.halted then true else bif k.busy then k.pri == 0 else false then true
  else bif k.busy then (bif !k.high then !k.sis else false)
  else bif bif !k.sis then !k.high else false then !k.low else false
noncomputable abbrev ctSd : CT := [(f_sched_nobody, in_sched_nobody [])]
theorem ctSd_ok : CTok Try.prog ctSd := ⟨in_sched_nobody_ok (ct := []) trivial, trivial⟩
set_option maxHeartbeats 1000000 in
theorem Settled_c (k : Core) (r : Bool) (hx : satB k = r) : Con Try.prog f_sched_Settled [.agg k.sv] [] (.ret (.t (.s (.bool r))) []) := by
  intro K hK
  unfold satB at hx
  refine enter fn_sched_Settled rfl nt_sched_Settled rfl rfl (fun φ w0 β0 F => ?_)
  refine c_run tt_ok ctSd_ok k_sched_Settled [] 90 (by kernel_rfl) ?_
  refine ⟨fun h1 => ?_, fun h1 => ⟨fun h2 => ?_, fun h2 => ?_⟩⟩
  · rw [show badS k = true from h1, cond_true] at hx
    subst hx
    exact fin_k tt_ok (rs := rs_sched_Settled) rfl rfl hK [] rfl rfl rfl rfl rfl rfl
  · rw [show badS k = false from h1, cond_false, show (bif !k.sis then !savZ k else false) = true from h2, cond_true] at hx
    subst hx
    exact fin_k tt_ok (rs := rs_sched_Settled) rfl rfl hK [] rfl rfl rfl rfl rfl rfl
  · rw [show badS k = false from h1, cond_false, show (bif !k.sis then !savZ k else false) = false from h2, cond_false] at hx
    refine c_waysH tt_ok ctSd_ok k_sched_Settled [0] rfl rfl rfl ?_
    cases hb : (!k.busy) with
    | false =>
      repeat' (first | exact trivial | exact ⟨rfl, trivial⟩ | exact hb | (intro h; exact absurd (h.symm.trans hb) (by decide)) | (intro h; exfalso; revert h; decide) | (refine And.intro ?_ ?_) | (refine fun _ => ?_))
      all_goals
        refine e_run tt_ok ctSd_ok k_sched_Settled [] 90 (by kernel_rfl) ?_
        refine ⟨fun h3 => ?_, fun h3 => ⟨fun h4 => ?_, fun h4 => ⟨fun h5 => ?_, fun h5 => ?_⟩⟩⟩
        · exact absurd h3 (by decide)
        · rw [show (bif !k.busy then !coreEq k k.nobody else false) = false by first | exact h3 | (rw [hb]; rfl), cond_false, show (bif k.halted then true else bif k.busy then k.pri == 0 else false) = true from h4, cond_true] at hx
          subst hx
          exact fin_k tt_ok (rs := rs_sched_Settled) rfl rfl hK [] rfl rfl rfl rfl rfl rfl
        · rw [show (bif !k.busy then !coreEq k k.nobody else false) = false by first | exact h3 | (rw [hb]; rfl), cond_false, show (bif k.halted then true else bif k.busy then k.pri == 0 else false) = false from h4, cond_false, show k.busy = true from h5, cond_true] at hx
          subst hx
          exact fin_k tt_ok (rs := rs_sched_Settled) rfl rfl hK [] rfl rfl rfl rfl rfl rfl
        · rw [show (bif !k.busy then !coreEq k k.nobody else false) = false by first | exact h3 | (rw [hb]; rfl), cond_false, show (bif k.halted then true else bif k.busy then k.pri == 0 else false) = false from h4, cond_false, show k.busy = false from h5, cond_false] at hx
          subst hx
          exact fin_k tt_ok (rs := rs_sched_Settled) rfl rfl hK [] rfl rfl rfl rfl rfl rfl
    | true =>
      repeat' (first | exact trivial | exact ⟨rfl, trivial⟩ | exact hb | (intro h; exact absurd (h.symm.trans hb) (by decide)) | (intro h; exfalso; revert h; decide) | (refine And.intro ?_ ?_) | (refine fun _ => ?_))
      all_goals
        refine e_run tt_ok ctSd_ok k_sched_Settled [] 90 (by kernel_rfl) ?_
        refine ⟨fun h3 => ?_, fun h3 => ⟨fun h4 => ?_, fun h4 => ⟨fun h5 => ?_, fun h5 => ?_⟩⟩⟩
        · rw [show (bif !k.busy then !coreEq k k.nobody else false) = true from h3, cond_true] at hx
          subst hx
          exact fin_k tt_ok (rs := rs_sched_Settled) rfl rfl hK [] rfl rfl rfl rfl rfl rfl
        · rw [show (bif !k.busy then !coreEq k k.nobody else false) = false by first | exact h3 | (rw [hb]; rfl), cond_false, show (bif k.halted then true else bif k.busy then k.pri == 0 else false) = true from h4, cond_true] at hx
          subst hx
          exact fin_k tt_ok (rs := rs_sched_Settled) rfl rfl hK [] rfl rfl rfl rfl rfl rfl
        · rw [show (bif !k.busy then !coreEq k k.nobody else false) = false by first | exact h3 | (rw [hb]; rfl), cond_false, show (bif k.halted then true else bif k.busy then k.pri == 0 else false) = false from h4, cond_false, show k.busy = true from h5, cond_true] at hx
          subst hx
          exact fin_k tt_ok (rs := rs_sched_Settled) rfl rfl hK [] rfl rfl rfl rfl rfl rfl
        · rw [show (bif !k.busy then !coreEq k k.nobody else false) = false by first | exact h3 | (rw [hb]; rfl), cond_false, show (bif k.halted then true else bif k.busy then k.pri == 0 else false) = false from h4, cond_false, show k.busy = false from h5, cond_false] at hx
          subst hx
          exact fin_k tt_ok (rs := rs_sched_Settled) rfl rfl hK [] rfl rfl rfl rfl rfl rfl
end Go.Proofs

namespace Go.Proofs
open Go Go.Sx
set_option maxRecDepth 10000
noncomputable abbrev eSettle : Ent := .st (conS (P := Try.prog) (f := f_sched_Settle) fun cargs σ0 => match cargs, σ0 with
  | [.agg cs, .s (.loc 0 0)], [.blk 52 [.sl 1 0 n n'], .own 5 1 c xs] => withCore cs fun k hk => some ⟨.ex (Ram × Core × Int) fun p => .ask (n = p.1.l.length ∧ n' = p.1.l.length ∧ c = p.1.l.length ∧ xs = bytesI p.1.l ∧ k.ok ∧ setR k p.1 = p.2)
      (.ret (.tup [.agg p.2.1.sv, .s (.int .i64 p.2.2)]) [mBox p.1.l.length, mOwn p.1.l]), fun K h => by
      obtain ⟨⟨m, k', e'⟩, ⟨e1, e2, e3, e4, h1, h2⟩, h⟩ := h
      dsimp only at e1 e2 e3 e4 h2 h
      subst e1; subst e2; subst e3; subst e4; subst hk
      exact Settle_c k m k' e' h1 h2 K h⟩
  | _, _ => none)
noncomputable abbrev eSlice : Ent := .st (conS (P := Try.prog) (f := f_sched_Slice) fun cargs σ0 => match cargs, σ0 with
  | [.agg cs, .s (.loc 0 0)], [.blk 52 [.sl 1 0 n n'], .own 5 1 c xs] => withCore cs fun k hk => some ⟨.ex (Ram × Core × Int × Ram) fun p => .ask (n = p.1.l.length ∧ n' = p.1.l.length ∧ c = p.1.l.length ∧ xs = bytesI p.1.l ∧ k.ok ∧ sliR k p.1 = p.2)
      (.ret (.tup [.agg p.2.1.sv, .s (.int .i64 p.2.2.1)]) [mBox p.2.2.2.l.length, mOwn p.2.2.2.l]), fun K h => by
      obtain ⟨⟨m, k', e', m'⟩, ⟨e1, e2, e3, e4, h1, h2⟩, h⟩ := h
      dsimp only at e1 e2 e3 e4 h2 h
      subst e1; subst e2; subst e3; subst e4; subst hk
      exact Slice_c k m k' e' m' h1 h2 K h⟩
  | _, _ => none)
noncomputable abbrev eExec : Ent := .st (conS (P := Try.prog) (f := f_sched_Exec) fun cargs σ0 => match cargs, σ0 with
  | [.agg cs, .s (.loc 0 0), .agg [.int .u8 fn, .int .i32 o]], [.blk 52 [.sl 1 0 n n'], .own 5 1 c xs] => withCore cs fun k hk => some ⟨.ex (Ram × Core × Int × Ram) fun p => .ask (n = p.1.l.length ∧ n' = p.1.l.length ∧ c = p.1.l.length ∧ xs = bytesI p.1.l ∧ k.ok ∧ exeR k p.1 fn o = p.2)
      (.ret (.tup [.agg p.2.1.sv, .s (.int .i64 p.2.2.1)]) [mBox p.2.2.2.l.length, mOwn p.2.2.2.l]), fun K h => by
      obtain ⟨⟨m, k', e', m'⟩, ⟨e1, e2, e3, e4, h1, h2⟩, h⟩ := h
      dsimp only at e1 e2 e3 e4 h2 h
      subst e1; subst e2; subst e3; subst e4; subst hk
      exact Exec_c k m fn o k' e' m' h1 h2 K h⟩
  | _, _ => none)
noncomputable abbrev eQueue : Ent := .st (conS (P := Try.prog) (f := f_sched_Queue) fun cargs σ0 => match cargs, σ0 with
  | [.agg cs, .s (.loc 0 0), .s (.int .i64 d)], [.blk 52 [.sl 1 0 n n'], .own 5 1 c xs] => withCore cs fun k hk => some ⟨.ex (Ram × List Int × Int) fun p => .ask (n = p.1.l.length ∧ n' = p.1.l.length ∧ c = p.1.l.length ∧ xs = bytesI p.1.l ∧ (k.ok ∧ -9223372036854775808 ≤ d ∧ d ≤ 9223372036854775807) ∧ queR k p.1 d = p.2)
      (.all Nat (fun c => p.2.1.length ≤ c ∧ (c = 0 → p.2.1 = [])) fun c => .ret (.tup [.s (.sl 2 0 p.2.1.length c), .s (.int .i64 p.2.2)]) [mBox p.1.l.length, mOwn p.1.l, .own 21 1 c (qV p.2.1)]), fun K h => by
      obtain ⟨⟨m, L, e'⟩, ⟨e1, e2, e3, e4, h1, h2⟩, h⟩ := h
      dsimp only at e1 e2 e3 e4 h2 h
      subst e1; subst e2; subst e3; subst e4; subst hk
      refine Queue_c k m d h1.1 h1.2 K ?_
      rw [h2]; exact h⟩
  | _, _ => none)
noncomputable abbrev eSettled : Ent := .st (conS (P := Try.prog) (f := f_sched_Settled) fun cargs σ0 => match cargs, σ0 with
  | [.agg cs], [] => withCore cs fun k hk => some ⟨.ex Bool fun r => .ask (satB k = r) (.ret (.t (.s (.bool r))) []), fun K h => by
      obtain ⟨r, h1, h⟩ := h
      subst hk
      exact Settled_c k r h1 K h⟩
  | _, _ => none)
def K0 : Core := ⟨0, 0, 0, 0, 0, 0, false, false, false, false, NP, NP, NP, NP, NP, NP, 0, 0, 0, 0, false, 0, 0, 0, 0, 0, false, 0⟩
theorem Reset_c : Con Try.prog f_r29_Reset [] [] (.ret (.t (.agg K0.sv)) []) := by
  intro K hK
  refine enter fn_r29_Reset rfl nt_r29_Reset rfl rfl (fun φ w0 β0 F => ?_)
  refine c_run tt_ok (ct := []) trivial k_r29_Reset [] 60 (by kernel_rfl) ?_
  refine c_unroll 2 ?_
  refine c_run' tt_ok (ct := []) trivial k_r29_Reset [] 90 (by kernel_rfl) (by kernel_rfl) ?_
  refine ⟨fun _ => ⟨fun _ => ⟨fun h => absurd h (by decide), fun _ => ?_⟩, fun h => absurd h (by decide)⟩, fun h => absurd h (by decide)⟩
  exact fin_k tt_ok (rs := rs_r29_Reset) rfl rfl hK [] rfl rfl rfl rfl rfl rfl
noncomputable abbrev eReset : Ent := .st (conS (P := Try.prog) (f := f_r29_Reset) fun cargs σ0 => match cargs, σ0 with
  | [], [] => some ⟨.ret (.t (.agg K0.sv)) [], Reset_c⟩
  | _, _ => none)
def Ram.z : Ram := ⟨List.replicate 1024 0, by simp, by simp, by simp, by intro b hb; rw [List.mem_replicate] at hb; omega⟩
def Ram.zz : Ram := ⟨List.replicate 2048 0, by simp, by simp, by simp, by intro b hb; rw [List.mem_replicate] at hb; omega⟩
noncomputable abbrev eNew : Ent := .st (conS (P := Try.prog) (f := f_mem_New) fun cargs σ0 => match cargs, σ0 with
  | [.s (.int .i64 n)], [] => some ⟨.br (mayM n) (.ret (.tup [.s (.loc 0 0), .s (.int .i64 0)]) [mBox n.toNat, .own 5 1 n.toNat (bytesI (List.replicate n.toNat 0))]) (.ret (.tup [.s (.raw (.pointer none)), .s (.int .i64 2)]) []), fun K h => New_c n K h⟩
  | _, _ => none)
theorem qV_at {L : List Int} {i : Nat} {x : Int} (h : L[i]? = some x) : (qV L)[i]? = some (.int .i32 x) := by unfold qV; rw [List.getElem?_map, h]; rfl
theorem same_c (A B : List Int) (ca cb : Nat) (hn : A.length ≤ 1000000000) : Con Try.prog f_r29_Same [.s (.sl 0 0 A.length ca), .s (.sl 1 0 B.length cb)] [.view (qV A), .view (qV B)] (.ret (.t (.s (.bool (decide (A = B))))) [.view (qV A), .view (qV B)]) := by
  intro K hK
  refine enter fn_r29_Same rfl nt_r29_Same rfl rfl (fun φ w0 β0 F => ?_)
  refine c_run tt_ok (ct := []) trivial k_r29_Same [] 60 (by kernel_rfl) ?_
  refine ⟨fun h => ?_, fun h => ?_⟩
  · have hne : A.length ≠ B.length := by intro e; rw [e] at h; simp at h
    rw [show decide (A = B) = false by simp; intro e; exact hne (by rw [e])] at hK
    exact fin_k tt_ok (rs := rs_r29_Same) rfl rfl hK [0, 1] rfl rfl rfl rfl rfl rfl
  · have hln : A.length = B.length := by
      have : ((A.length : Int) != (B.length : Int)) = false := h
      have h2 := by simpa using this
      exact Int.ofNat.inj h2
    show WpC _ _ _ _ _
    refine c_loop (α := Nat) (fun i => i ≤ A.length ∧ A.take i = B.take i) (fun i => A.length - i)
      (fun i => [(0, .t (.s (.sl 0 0 A.length ca)), none), (1, .t (.s (.sl 1 0 B.length cb)), none), (5, .t (.s (.int .i64 (i : Int))), none)])
      (fun _ => [.view (qV A), .view (qV B)]) 0 ⟨Nat.zero_le _, rfl⟩ ?_ ?_
    · exact into [0, 1] ⟨⟨_, rfl, rfl⟩, ⟨_, rfl, rfl⟩, ⟨_, rfl, rfl⟩, trivial⟩ ⟨_, rfl, rfl⟩ rfl rfl rfl rfl
    · intro i ⟨hi, he⟩
      dsimp only
      refine c_run' tt_ok (ct := []) trivial k_r29_Same [] 60 (by kernel_rfl) (by kernel_rfl) ?_
      refine ⟨fun h1 => ?_, fun h1 => ?_⟩
      · have hlt : i < A.length := by have := of_decide_eq_true h1; omega
        have hlt2 : i < B.length := by omega
        obtain ⟨p, hp⟩ : ∃ p, A[i]? = some p := ⟨_, List.getElem?_eq_getElem hlt⟩
        obtain ⟨q, hq⟩ : ∃ q, B[i]? = some q := ⟨_, List.getElem?_eq_getElem hlt2⟩
        refine ⟨i, ⟨rfl, hlt, by rw [qV_len]; simp only [Nat.zero_add, Nat.mul_one]; omega⟩, .int .i32 p, rfl, by show (qV A)[0 + i * 1]? = _; rw [Nat.zero_add, Nat.mul_one]; exact qV_at hp, ?_⟩
        refine ⟨i, ⟨rfl, hlt2, by rw [qV_len]; simp only [Nat.zero_add, Nat.mul_one]; omega⟩, .int .i32 q, rfl, by show (qV B)[0 + i * 1]? = _; rw [Nat.zero_add, Nat.mul_one]; exact qV_at hq, ?_⟩
        refine ⟨fun h2 => ?_, fun h2 => ?_⟩
        · have hne : ¬ A = B := by
            intro e
            rw [e, hq] at hp
            cases hp
            simp at h2
          rw [show decide (A = B) = false by simpa using hne] at hK
          exact fin_k tt_ok (rs := rs_r29_Same) rfl rfl hK [0, 1] rfl rfl rfl rfl rfl rfl
        · have heq : p = q := by simpa using h2
          subst heq
          refine e_again (i + 1) ⟨by omega, ?_⟩ (by omega) (into [0, 1] ⟨⟨_, rfl, rfl⟩, ⟨_, rfl, rfl⟩, ⟨_, rfl, fvi (wrapSucc (by omega))⟩, trivial⟩ ⟨_, rfl, rfl⟩ rfl rfl rfl rfl)
          rw [List.take_add_one, List.take_add_one, he, hp, hq]
      · have hge : i = A.length := by have := of_decide_eq_false h1; omega
        subst hge
        rw [List.take_length, hln, List.take_length] at he
        rw [he, show decide (B = B) = true by simp] at hK
        rw [he]
        exact fin_k tt_ok (rs := rs_r29_Same) rfl rfl hK [0, 1] rfl rfl rfl rfl rfl rfl
def rdSame : List RA → (Prop → Prop) → (FV → Prop) → Option Prop
  | [.row xs n _, .row ys n' _], ask, k => some (∃ p : List Int × List Int, ask (xs = qV p.1 ∧ n = p.1.length ∧ ys = qV p.2 ∧ n' = p.2.length ∧ p.1.length ≤ 1000000000) ∧ k (.t (.s (.bool (decide (p.1 = p.2))))))
  | _, _, _ => none
theorem re_same : REok Try.prog f_r29_Same rdSame := ⟨cal_r29_Same, fun args ask k R h hR => by
  unfold rdSame at h
  split at h
  · cases h
    obtain ⟨⟨A, B⟩, h1, h2⟩ := hR
    refine ⟨_, h2, rfl, fun hp => ?_⟩
    obtain ⟨e1, e2, e3, e4, h3⟩ := hp _ h1
    dsimp only at e1 e2 e3 e4 h3
    subst e1; subst e2; subst e3; subst e4
    exact ⟨fun β φ w hs => (((same_c A B _ _ h3) (fun v σ => v = .t (.s (.bool (decide (A = B)))) ∧ σ = [.view (qV A), .view (qV B)]) ⟨rfl, rfl⟩).h β φ w hs).mono fun _ _ ⟨x, β', ⟨q1, q2⟩, hr⟩ => by
      obtain ⟨v, σ⟩ := x
      dsimp only at q1 q2
      subst q1; subst q2
      exact ⟨(), β', trivial, hr⟩⟩
  · cases h⟩
end Go.Proofs

namespace Go.Proofs
open Go Go.Sx
set_option maxRecDepth 10000
def hc1 : Core := ⟨0, 0, 0, 0, 0, 0, false, false, false, false, -2147483648, -2147483392, -2147483648, -2147483392, -2147483648, -2147483648, 0, 0, 0, 0, false, 0, 0, 0, 0, 0, false, 0⟩
def hc2 : Core := ⟨0, 0, 0, 77, -2147483392, 1, true, false, false, false, -2147483648, -2147483648, -2147483648, -2147483648, -2147483648, -2147483648, 0, 0, 0, 0, false, 0, 0, 0, 0, 0, false, 0⟩
def hc3 : Core := ⟨0, 0, 0, 77, -2147483392, 1, true, false, false, false, -2147483520, -2147483648, -2147483520, -2147483648, -2147483648, -2147483648, 0, 0, 0, 0, false, 0, 0, 0, 0, 0, false, 0⟩
def hc4 : Core := ⟨0, 0, 0, 0, -2147483520, 0, true, false, false, false, -2147483648, -2147483648, -2147483648, -2147483648, -2147483648, -2147483648, 0, 0, 0, 0, true, 0, 0, 0, 77, -2147483392, false, 0⟩
def hc5 : Core := ⟨0, 0, 0, 0, 0, 0, false, false, false, false, -2147483648, -2147483648, -2147483648, -2147483648, -2147483648, -2147483648, 0, 0, 0, 0, true, 0, 0, 0, 77, -2147483392, false, 0⟩
def hc6 : Core := ⟨0, 0, 0, 77, -2147483392, 1, true, false, false, false, -2147483648, -2147483648, -2147483648, -2147483648, -2147483648, -2147483648, 0, 0, 0, 0, false, 0, 0, 0, 0, 0, false, 0⟩
def hc7 : Core := ⟨-2147483520, 5, 0, 77, -2147483392, 1, true, false, false, false, -2147483648, -2147483648, -2147483648, -2147483648, -2147483648, -2147483648, 0, 0, 0, 0, false, 0, 0, 0, 0, 0, false, 0⟩
def hc8 : Core := ⟨0, 0, 0, 77, -2147483392, 1, true, false, false, false, -2147483648, -2147483520, -2147483648, -2147483520, -2147483648, -2147483648, 0, 0, 0, 0, false, 0, 0, 0, 0, 0, false, 0⟩
theorem K0_ok : K0.ok := by constructor <;> exact ⟨by decide, by decide⟩
theorem hc1_ok : hc1.ok := by constructor <;> exact ⟨by decide, by decide⟩
theorem hc2_ok : hc2.ok := by constructor <;> exact ⟨by decide, by decide⟩
theorem hc3_ok : hc3.ok := by constructor <;> exact ⟨by decide, by decide⟩
theorem hc4_ok : hc4.ok := by constructor <;> exact ⟨by decide, by decide⟩
theorem hc5_ok : hc5.ok := by constructor <;> exact ⟨by decide, by decide⟩
theorem hc6_ok : hc6.ok := by constructor <;> exact ⟨by decide, by decide⟩
theorem hc7_ok : hc7.ok := by constructor <;> exact ⟨by decide, by decide⟩
theorem hc8_ok : hc8.ok := by constructor <;> exact ⟨by decide, by decide⟩
def hm1 : Ram := Ram.z.set (-2147483396) 77
def hm2 : Ram := (exeR hc4 hm1 15 21).2.2
def hm3 : Ram := (exeR hc7 hm2 15 13).2.2
theorem head_facts : ∃ m1 m2 m3 : Ram, Ram.z.set (-2147483396) 77 = m1 ∧ appR K0 m1 (-2147483391) = (hc1, 0, m1) ∧ setR hc1 m1 = (hc2, 0) ∧ appR hc2 m1 (-2147483520) = (hc3, 0, m1) ∧ setR hc3 m1 = (hc4, 0) ∧
    exeR hc4 m1 15 21 = (hc5, 0, m2) ∧ setR hc5 m2 = (hc6, 0) ∧ exeR hc7 m2 15 13 = (hc8, 0, m3) ∧ queR hc8 m3 1 = ([-2147483520], 0) ∧ m3.word (-2147483524) = 82 ∧ appR hc8 m3 (-2147483648) = (.zero, 4, m3) ∧ takR hc8 m3 0 = (.zero, 0, 6) ∧ satB hc8 = true :=
  ⟨hm1, hm2, hm3, rfl, by kernel_rfl, by kernel_rfl, by kernel_rfl, by kernel_rfl, by kernel_rfl, by kernel_rfl, by kernel_rfl, by kernel_rfl, by kernel_rfl, by kernel_rfl, by kernel_rfl, by kernel_rfl⟩
noncomputable abbrev ctHd : CT := [(f_mem_New, eNew), (f_mem_Mem_SetWord, eSetWordT), (f_mem_Mem_Word, eWordT), (f_r29_Reset, eReset), (f_sched_Append, eAppend), (f_sched_Settle, eSettle), (f_sched_Exec, eExec), (f_sched_Queue, eQueue), (f_sched_Take, eTake), (f_sched_Settled, eSettled), (f_r29_Same, .rd rdSame), (f_l29_op, in_l29_op [])]
theorem ctHd_ok : CTok Try.prog ctHd := ⟨con_ok cal_mem_New _, con_ok cal_mem_Mem_SetWord _, con_ok cal_mem_Mem_Word _, con_ok cal_r29_Reset _, con_ok cal_sched_Append _, con_ok cal_sched_Settle _, con_ok cal_sched_Exec _, con_ok cal_sched_Queue _, con_ok cal_sched_Take _, con_ok cal_sched_Settled _, re_same, in_l29_op_ok (ct := []) trivial, trivial⟩
theorem c_merge {X : Cx} {c : Code} {Q : Exit → Act → World → Prop} {fr : Fr} {σ : List Ch} (fr' : Fr) (σ' : List Ch) (ways : WpE X Q .normal fr' σ' → WpC X c Q fr σ) (cont : WpE X Q .normal fr' σ') : WpC X c Q fr σ := ways cont
theorem told_tr {b : Bool} {β : Nat → Bd} (h : b = true) : (FV.t (.s (.bool true))).den β = (FV.t (.s (.bool b))).den β := by rw [h]
set_option maxHeartbeats 4000000 in
theorem head_c : Con Try.prog f_l29_head [] [] (.ret (.t (.s (.bool true))) []) := by
  intro K hK
  obtain ⟨m1, m2, m3, e1, ha1, hs2, ha3, hs4, hx5, hs6, hx8, hq, hw, ha9, ht, hst⟩ := head_facts
  refine enter fn_l29_head rfl nt_l29_head rfl rfl (fun φ w0 β0 F => ?_)
  refine c_run tt_ok ctHd_ok k_l29_head [100064, 100098] 90 (by kernel_rfl) ?_
  refine ⟨fun _ => ?_, fun h => absurd h (by decide)⟩
  refine ⟨Ram.z, ⟨rfl, rfl, rfl, rfl, by unfold I32; decide⟩, ?_⟩
  rw [show Ram.z.set (IntKind.i32.wrap (-2147483392 - 4)) 77 = m1 from e1]
  refine ⟨(m1, hc1, 0, m1), ⟨rfl, rfl, rfl, rfl, ⟨K0_ok, by unfold I32; decide⟩, ha1⟩, ?_⟩
  refine ⟨(m1, hc2, 0), ⟨rfl, rfl, rfl, rfl, hc1_ok, hs2⟩, ?_⟩
  refine ⟨.t (.s (.bool true)), fun β => told_tr (by first | decide | rfl), rfl, ?_⟩
  refine ⟨(m1, hc3, 0, m1), ⟨rfl, rfl, rfl, rfl, ⟨hc2_ok, by unfold I32; decide⟩, ha3⟩, ?_⟩
  refine ⟨(m1, hc4, 0), ⟨rfl, rfl, rfl, rfl, hc3_ok, hs4⟩, ?_⟩
  refine ⟨.t (.s (.bool true)), fun β => told_tr (by first | decide | rfl), rfl, ?_⟩
  show WpC _ _ _ _ _
  refine c_merge [(0, .t (.s (.bool false)), none), (1, .t (.s (.loc 0 0)), none), (3, .t (.s (.int .i32 (-2147483520))), none), (4, .t (.s (.int .i32 (-2147483392))), none), (5, .t (.s (.loc 2 0)), none), (6, .t (.s (.int .i64 0)), none), (7, .t (.s (.int .i64 0)), none), (8, .t (.s (.bool true)), none), (9, .t (.s (.int .i64 0)), none), (10, .t (.s (.int .i64 0)), none), (11, .t (.s (.bool true)), none), (12, .t (.s (.int .i64 0)), none)] [.blk 52 [.sl 1 0 m2.l.length m2.l.length], mOwn m2.l, .blk 32 hc5.sv] (fun key => ?ways1) ?cont1
  case ways1 =>
    refine c_ways tt_ok ctHd_ok k_l29_head rfl rfl ?_
    repeat' (first | exact trivial | (refine WpE.into ?_ key; first | (exact into [0, 1, 2] ⟨⟨_, rfl, rfl⟩, ⟨_, rfl, rfl⟩, ⟨_, rfl, rfl⟩, ⟨_, rfl, rfl⟩, ⟨_, rfl, rfl⟩, ⟨_, rfl, rfl⟩, ⟨_, rfl, rfl⟩, ⟨_, rfl, rfl⟩, ⟨_, rfl, rfl⟩, ⟨_, rfl, rfl⟩, ⟨_, rfl, rfl⟩, ⟨_, rfl, rfl⟩, trivial⟩ ⟨_, rfl, rfl⟩ rfl rfl rfl rfl)) | (refine Exists.intro (m1, hc5, 0, m2) ?_; refine And.intro ⟨rfl, rfl, rfl, rfl, hc4_ok, hx5⟩ ?_) | (refine And.intro ?_ ?_) | (refine fun _ => ?_))
  refine e_run tt_ok ctHd_ok k_l29_head [100126] 90 (by kernel_rfl) ?_
  refine ⟨(m2, hc6, 0), ⟨rfl, rfl, rfl, rfl, hc5_ok, hs6⟩, ?_⟩
  refine ⟨.t (.s (.bool true)), fun β => told_tr (by first | decide | rfl), rfl, ?_⟩
  show WpC _ _ _ _ _
  refine c_merge [(0, .t (.s (.bool false)), none), (1, .t (.s (.loc 0 0)), none), (3, .t (.s (.int .i32 (-2147483520))), none), (4, .t (.s (.int .i32 (-2147483392))), none), (5, .t (.s (.loc 2 0)), none), (6, .t (.s (.int .i64 0)), none), (7, .t (.s (.int .i64 0)), none), (8, .t (.s (.bool true)), none), (9, .t (.s (.int .i64 0)), none), (10, .t (.s (.int .i64 0)), none), (11, .t (.s (.bool true)), none), (12, .t (.s (.int .i64 0)), none), (13, .t (.s (.int .i64 0)), none), (14, .t (.s (.bool true)), none), (15, .t (.s (.int .i64 0)), none)] [.blk 52 [.sl 1 0 m3.l.length m3.l.length], mOwn m3.l, .blk 32 hc8.sv] (fun key => ?ways2) ?cont2
  case ways2 =>
    refine c_ways tt_ok ctHd_ok k_l29_head rfl rfl ?_
    repeat' (first | exact trivial | (refine WpE.into ?_ key; first | (exact into [0, 1, 2] ⟨⟨_, rfl, rfl⟩, ⟨_, rfl, rfl⟩, ⟨_, rfl, rfl⟩, ⟨_, rfl, rfl⟩, ⟨_, rfl, rfl⟩, ⟨_, rfl, rfl⟩, ⟨_, rfl, rfl⟩, ⟨_, rfl, rfl⟩, ⟨_, rfl, rfl⟩, ⟨_, rfl, rfl⟩, ⟨_, rfl, rfl⟩, ⟨_, rfl, rfl⟩, ⟨_, rfl, rfl⟩, ⟨_, rfl, rfl⟩, ⟨_, rfl, rfl⟩, trivial⟩ ⟨_, rfl, rfl⟩ rfl rfl rfl rfl)) | (refine Exists.intro (m2, hc8, 0, m3) ?_; refine And.intro ⟨rfl, rfl, rfl, rfl, hc7_ok, hx8⟩ ?_) | (refine And.intro ?_ ?_) | (refine fun _ => ?_))
  refine e_run tt_ok ctHd_ok k_l29_head [100166, 100169, 100173, 100177, 100181, 100185, 100189, 100193, 100197, 100201, 100205, 100209, 100213, 100219, 100223] 90 (by kernel_rfl) ?_
  refine ⟨(m3, [-2147483520], 0), ⟨rfl, rfl, rfl, rfl, ⟨hc8_ok, by decide, by decide⟩, hq⟩, fun cq hcq => ?_⟩
  refine ⟨m3, ⟨rfl, rfl, rfl, rfl, by unfold I32; decide⟩, ?_⟩
  refine ⟨(m3, .zero, 4, m3), ⟨rfl, rfl, rfl, rfl, ⟨hc8_ok, by unfold I32; decide⟩, ha9⟩, ?_⟩
  refine ⟨(m3, .zero, 0, 6), ⟨rfl, rfl, rfl, rfl, ⟨hc8_ok, by decide, by decide⟩, ht⟩, ?_⟩
  refine ⟨.t (.s (.bool true)), fun β => told_tr (by first | decide | rfl), rfl, ?_⟩
  refine ⟨.t (.s (.bool true)), fun β => told_tr (by first | decide | rfl), rfl, ?_⟩
  refine ⟨.t (.s (.bool true)), fun β => told_tr (by first | decide | rfl), rfl, ?_⟩
  refine ⟨.t (.s (.bool true)), fun β => told_tr (by first | decide | rfl), rfl, ?_⟩
  refine ⟨.t (.s (.bool true)), fun β => told_tr (by first | decide | rfl), rfl, ?_⟩
  refine ⟨.t (.s (.bool true)), fun β => told_tr (by first | decide | rfl), rfl, ?_⟩
  refine ⟨.t (.s (.bool true)), fun β => told_tr (by first | decide | rfl), rfl, ?_⟩
  refine ⟨.t (.s (.bool true)), fun β => told_tr (by first | decide | rfl), rfl, ?_⟩
  refine ⟨.t (.s (.bool true)), fun β => told_tr (by first | decide | rfl), rfl, ?_⟩
  refine ⟨.t (.s (.bool true)), fun β => told_tr (by first | decide | rfl), rfl, ?_⟩
  refine ⟨.t (.s (.bool true)), fun β => told_tr (by first | decide | rfl), rfl, ?_⟩
  refine ⟨.t (.s (.bool true)), fun β => told_tr (by first | decide | rfl), rfl, ?_⟩
  rw [show m3.word (IntKind.i32.wrap (-2147483520 - 4)) = 82 from hw]
  refine ⟨.t (.s (.bool true)), fun β => told_tr (by first | decide | rfl), rfl, ?_⟩
  refine ⟨fun _ => ⟨fun _ => ⟨([-2147483520], [-2147483520]), ⟨rfl, rfl, rfl, rfl, by decide⟩, ?_⟩, fun h => absurd h (by decide)⟩, fun h => absurd h (by decide)⟩
  refine ⟨.t (.s (.bool true)), fun β => told_tr (by first | decide | rfl), rfl, ?_⟩
  refine ⟨fun _ => ⟨true, hst, ?_⟩, fun h => absurd h (by decide)⟩
  refine ⟨.t (.s (.bool true)), fun β => told_tr (by first | decide | rfl), rfl, ?_⟩
  exact fin_k tt_ok (rs := rs_l29_head) rfl rfl hK [] rfl rfl rfl rfl rfl rfl
noncomputable abbrev eHead : Ent := .st (conS (P := Try.prog) (f := f_l29_head) fun cargs σ0 => match cargs, σ0 with
  | [], [] => some ⟨.ret (.t (.s (.bool true))) [], head_c⟩
  | _, _ => none)
end Go.Proofs

namespace Go.Proofs
open Go Go.Sx
set_option maxRecDepth 10000
noncomputable abbrev ctNo : CT := [(f_sched_none, in_sched_none [(f_mem_Mem_Size, in_mem_Mem_Size [(f_mem_Mem_none, in_mem_Mem_none [])])])]
theorem ctNo_ok : CTok Try.prog ctNo := ⟨in_sched_none_ok (ct := [(f_mem_Mem_Size, in_mem_Mem_Size [(f_mem_Mem_none, in_mem_Mem_none [])])]) ⟨in_mem_Mem_Size_ok (ct := [(f_mem_Mem_none, in_mem_Mem_none [])]) ⟨in_mem_Mem_none_ok (ct := []) trivial, trivial⟩, trivial⟩, trivial⟩
theorem Queue_0 (k : Core) (d : Int) : Con Try.prog f_sched_Queue [.agg k.sv, .s (.loc 0 0), .s (.int .i64 d)] [.blk 52 [.raw (.slice none 0 0)]] (.ret (.tup [.s (.raw (.slice none 0 0)), .s (.int .i64 1)]) [.blk 52 [.raw (.slice none 0 0)]]) := by
  intro K hK
  refine enterM fn_sched_Queue rfl nt_sched_Queue rfl rfl (fun φ w0 β0 F => ?_)
  refine c_run tt_ok ctNo_ok k_sched_Queue [] 60 (by kernel_rfl) ?_
  repeat' (first | (refine And.intro ?_ ?_) | (intro h; exact absurd h (by decide)) | (refine fun _ => ?_))
  all_goals
    refine finM0 (.inr rfl) rfl ?_
    exact fin_k tt_ok (rs := rs_sched_Queue) rfl rfl hK [0] rfl rfl rfl rfl rfl rfl
theorem Queue_n (k : Core) (d : Int) : Con Try.prog f_sched_Queue [.agg k.sv, .s (.raw (.pointer none)), .s (.int .i64 d)] [] (.ret (.tup [.s (.raw (.slice none 0 0)), .s (.int .i64 1)]) []) := by
  intro K hK
  refine enterM fn_sched_Queue rfl nt_sched_Queue rfl rfl (fun φ w0 β0 F => ?_)
  refine c_run tt_ok ctNo_ok k_sched_Queue [] 60 (by kernel_rfl) ?_
  repeat' (first | (refine And.intro ?_ ?_) | (intro h; exact absurd h (by decide)) | (refine fun _ => ?_))
  all_goals
    refine finM0 (.inr rfl) rfl ?_
    exact fin_k tt_ok (rs := rs_sched_Queue) rfl rfl hK [] rfl rfl rfl rfl rfl rfl
theorem Append_0 (k : Core) (d : Int) : Con Try.prog f_sched_Append [.agg k.sv, .s (.loc 0 0), .s (.int .i32 d)] [.blk 52 [.raw (.slice none 0 0)]] (.ret (.tup [.agg Core.zero.sv, .s (.int .i64 1)]) [.blk 52 [.raw (.slice none 0 0)]]) := by
  intro K hK
  refine enter fn_sched_Append rfl nt_sched_Append rfl rfl (fun φ w0 β0 F => ?_)
  refine c_run tt_ok ctNo_ok k_sched_Append [] 60 (by kernel_rfl) ?_
  repeat' (first | (refine And.intro ?_ ?_) | (intro h; exact absurd h (by decide)) | (refine fun _ => ?_))
  all_goals
    exact fin_k tt_ok (rs := rs_sched_Append) rfl rfl hK [0] rfl rfl rfl rfl rfl rfl
theorem Append_n (k : Core) (d : Int) : Con Try.prog f_sched_Append [.agg k.sv, .s (.raw (.pointer none)), .s (.int .i32 d)] [] (.ret (.tup [.agg Core.zero.sv, .s (.int .i64 1)]) []) := by
  intro K hK
  refine enter fn_sched_Append rfl nt_sched_Append rfl rfl (fun φ w0 β0 F => ?_)
  refine c_run tt_ok ctNo_ok k_sched_Append [] 60 (by kernel_rfl) ?_
  repeat' (first | (refine And.intro ?_ ?_) | (intro h; exact absurd h (by decide)) | (refine fun _ => ?_))
  all_goals
    exact fin_k tt_ok (rs := rs_sched_Append) rfl rfl hK [] rfl rfl rfl rfl rfl rfl
theorem Take_0 (k : Core) (d : Int) : Con Try.prog f_sched_Take [.agg k.sv, .s (.loc 0 0), .s (.int .i64 d)] [.blk 52 [.raw (.slice none 0 0)]] (.ret (.tup [.agg Core.zero.sv, .s (.int .i32 0), .s (.int .i64 1)]) [.blk 52 [.raw (.slice none 0 0)]]) := by
  intro K hK
  refine enter fn_sched_Take rfl nt_sched_Take rfl rfl (fun φ w0 β0 F => ?_)
  refine c_run tt_ok ctNo_ok k_sched_Take [] 60 (by kernel_rfl) ?_
  repeat' (first | (refine And.intro ?_ ?_) | (intro h; exact absurd h (by decide)) | (refine fun _ => ?_))
  all_goals
    exact fin_k tt_ok (rs := rs_sched_Take) rfl rfl hK [0] rfl rfl rfl rfl rfl rfl
theorem Take_n (k : Core) (d : Int) : Con Try.prog f_sched_Take [.agg k.sv, .s (.raw (.pointer none)), .s (.int .i64 d)] [] (.ret (.tup [.agg Core.zero.sv, .s (.int .i32 0), .s (.int .i64 1)]) []) := by
  intro K hK
  refine enter fn_sched_Take rfl nt_sched_Take rfl rfl (fun φ w0 β0 F => ?_)
  refine c_run tt_ok ctNo_ok k_sched_Take [] 60 (by kernel_rfl) ?_
  repeat' (first | (refine And.intro ?_ ?_) | (intro h; exact absurd h (by decide)) | (refine fun _ => ?_))
  all_goals
    exact fin_k tt_ok (rs := rs_sched_Take) rfl rfl hK [] rfl rfl rfl rfl rfl rfl
theorem Wait_0 (k : Core)  : Con Try.prog f_sched_Wait [.agg k.sv, .s (.loc 0 0)] [.blk 52 [.raw (.slice none 0 0)]] (.ret (.tup [.agg Core.zero.sv, .s (.int .i64 1)]) [.blk 52 [.raw (.slice none 0 0)]]) := by
  intro K hK
  refine enter fn_sched_Wait rfl nt_sched_Wait rfl rfl (fun φ w0 β0 F => ?_)
  refine c_run tt_ok ctNo_ok k_sched_Wait [] 60 (by kernel_rfl) ?_
  repeat' (first | (refine And.intro ?_ ?_) | (intro h; exact absurd h (by decide)) | (refine fun _ => ?_))
  all_goals
    exact fin_k tt_ok (rs := rs_sched_Wait) rfl rfl hK [0] rfl rfl rfl rfl rfl rfl
theorem Wait_n (k : Core)  : Con Try.prog f_sched_Wait [.agg k.sv, .s (.raw (.pointer none))] [] (.ret (.tup [.agg Core.zero.sv, .s (.int .i64 1)]) []) := by
  intro K hK
  refine enter fn_sched_Wait rfl nt_sched_Wait rfl rfl (fun φ w0 β0 F => ?_)
  refine c_run tt_ok ctNo_ok k_sched_Wait [] 60 (by kernel_rfl) ?_
  repeat' (first | (refine And.intro ?_ ?_) | (intro h; exact absurd h (by decide)) | (refine fun _ => ?_))
  all_goals
    exact fin_k tt_ok (rs := rs_sched_Wait) rfl rfl hK [] rfl rfl rfl rfl rfl rfl
theorem Settle_0 (k : Core)  : Con Try.prog f_sched_Settle [.agg k.sv, .s (.loc 0 0)] [.blk 52 [.raw (.slice none 0 0)]] (.ret (.tup [.agg Core.zero.sv, .s (.int .i64 1)]) [.blk 52 [.raw (.slice none 0 0)]]) := by
  intro K hK
  refine enter fn_sched_Settle rfl nt_sched_Settle rfl rfl (fun φ w0 β0 F => ?_)
  refine c_run tt_ok ctNo_ok k_sched_Settle [] 60 (by kernel_rfl) ?_
  repeat' (first | (refine And.intro ?_ ?_) | (intro h; exact absurd h (by decide)) | (refine fun _ => ?_))
  all_goals
    exact fin_k tt_ok (rs := rs_sched_Settle) rfl rfl hK [0] rfl rfl rfl rfl rfl rfl
theorem Settle_n (k : Core)  : Con Try.prog f_sched_Settle [.agg k.sv, .s (.raw (.pointer none))] [] (.ret (.tup [.agg Core.zero.sv, .s (.int .i64 1)]) []) := by
  intro K hK
  refine enter fn_sched_Settle rfl nt_sched_Settle rfl rfl (fun φ w0 β0 F => ?_)
  refine c_run tt_ok ctNo_ok k_sched_Settle [] 60 (by kernel_rfl) ?_
  repeat' (first | (refine And.intro ?_ ?_) | (intro h; exact absurd h (by decide)) | (refine fun _ => ?_))
  all_goals
    exact fin_k tt_ok (rs := rs_sched_Settle) rfl rfl hK [] rfl rfl rfl rfl rfl rfl
theorem Slice_0 (k : Core)  : Con Try.prog f_sched_Slice [.agg k.sv, .s (.loc 0 0)] [.blk 52 [.raw (.slice none 0 0)]] (.ret (.tup [.agg Core.zero.sv, .s (.int .i64 1)]) [.blk 52 [.raw (.slice none 0 0)]]) := by
  intro K hK
  refine enter fn_sched_Slice rfl nt_sched_Slice rfl rfl (fun φ w0 β0 F => ?_)
  refine c_run tt_ok ctNo_ok k_sched_Slice [] 60 (by kernel_rfl) ?_
  repeat' (first | (refine And.intro ?_ ?_) | (intro h; exact absurd h (by decide)) | (refine fun _ => ?_))
  all_goals
    exact fin_k tt_ok (rs := rs_sched_Slice) rfl rfl hK [0] rfl rfl rfl rfl rfl rfl
theorem Slice_n (k : Core)  : Con Try.prog f_sched_Slice [.agg k.sv, .s (.raw (.pointer none))] [] (.ret (.tup [.agg Core.zero.sv, .s (.int .i64 1)]) []) := by
  intro K hK
  refine enter fn_sched_Slice rfl nt_sched_Slice rfl rfl (fun φ w0 β0 F => ?_)
  refine c_run tt_ok ctNo_ok k_sched_Slice [] 60 (by kernel_rfl) ?_
  repeat' (first | (refine And.intro ?_ ?_) | (intro h; exact absurd h (by decide)) | (refine fun _ => ?_))
  all_goals
    exact fin_k tt_ok (rs := rs_sched_Slice) rfl rfl hK [] rfl rfl rfl rfl rfl rfl
theorem Exec_0 (k : Core) (fn : Int) (o : Int) : Con Try.prog f_sched_Exec [.agg k.sv, .s (.loc 0 0), .agg [.int .u8 fn, .int .i32 o]] [.blk 52 [.raw (.slice none 0 0)]] (.ret (.tup [.agg Core.zero.sv, .s (.int .i64 1)]) [.blk 52 [.raw (.slice none 0 0)]]) := by
  intro K hK
  refine enter fn_sched_Exec rfl nt_sched_Exec rfl rfl (fun φ w0 β0 F => ?_)
  refine c_run tt_ok ctNo_ok k_sched_Exec [] 60 (by kernel_rfl) ?_
  repeat' (first | (refine And.intro ?_ ?_) | (intro h; exact absurd h (by decide)) | (refine fun _ => ?_))
  all_goals
    exact fin_k tt_ok (rs := rs_sched_Exec) rfl rfl hK [0] rfl rfl rfl rfl rfl rfl
theorem Exec_n (k : Core) (fn : Int) (o : Int) : Con Try.prog f_sched_Exec [.agg k.sv, .s (.raw (.pointer none)), .agg [.int .u8 fn, .int .i32 o]] [] (.ret (.tup [.agg Core.zero.sv, .s (.int .i64 1)]) []) := by
  intro K hK
  refine enter fn_sched_Exec rfl nt_sched_Exec rfl rfl (fun φ w0 β0 F => ?_)
  refine c_run tt_ok ctNo_ok k_sched_Exec [] 60 (by kernel_rfl) ?_
  repeat' (first | (refine And.intro ?_ ?_) | (intro h; exact absurd h (by decide)) | (refine fun _ => ?_))
  all_goals
    exact fin_k tt_ok (rs := rs_sched_Exec) rfl rfl hK [] rfl rfl rfl rfl rfl rfl
end Go.Proofs

namespace Go.Proofs
open Go Go.Sx
set_option maxRecDepth 10000
noncomputable abbrev eQueueN : Ent := .st (conS (P := Try.prog) (f := f_sched_Queue) fun cargs σ0 => match cargs, σ0 with
  | [.agg cs, .s (.loc 0 0), .s (.int .i64 d)], [.blk 52 [.raw (.slice none 0 0)]] => withCore cs fun k hk => some ⟨.ret (.tup [.s (.raw (.slice none 0 0)), .s (.int .i64 1)]) [.blk 52 [.raw (.slice none 0 0)]], by subst hk; exact Queue_0 k d⟩
  | [.agg cs, .s (.raw (.pointer none)), .s (.int .i64 d)], [] => withCore cs fun k hk => some ⟨.ret (.tup [.s (.raw (.slice none 0 0)), .s (.int .i64 1)]) [], by subst hk; exact Queue_n k d⟩
  | _, _ => none)
noncomputable abbrev eAppendN : Ent := .st (conS (P := Try.prog) (f := f_sched_Append) fun cargs σ0 => match cargs, σ0 with
  | [.agg cs, .s (.loc 0 0), .s (.int .i32 d)], [.blk 52 [.raw (.slice none 0 0)]] => withCore cs fun k hk => some ⟨.ret (.tup [.agg Core.zero.sv, .s (.int .i64 1)]) [.blk 52 [.raw (.slice none 0 0)]], by subst hk; exact Append_0 k d⟩
  | [.agg cs, .s (.raw (.pointer none)), .s (.int .i32 d)], [] => withCore cs fun k hk => some ⟨.ret (.tup [.agg Core.zero.sv, .s (.int .i64 1)]) [], by subst hk; exact Append_n k d⟩
  | _, _ => none)
noncomputable abbrev eTakeN : Ent := .st (conS (P := Try.prog) (f := f_sched_Take) fun cargs σ0 => match cargs, σ0 with
  | [.agg cs, .s (.loc 0 0), .s (.int .i64 d)], [.blk 52 [.raw (.slice none 0 0)]] => withCore cs fun k hk => some ⟨.ret (.tup [.agg Core.zero.sv, .s (.int .i32 0), .s (.int .i64 1)]) [.blk 52 [.raw (.slice none 0 0)]], by subst hk; exact Take_0 k d⟩
  | [.agg cs, .s (.raw (.pointer none)), .s (.int .i64 d)], [] => withCore cs fun k hk => some ⟨.ret (.tup [.agg Core.zero.sv, .s (.int .i32 0), .s (.int .i64 1)]) [], by subst hk; exact Take_n k d⟩
  | _, _ => none)
noncomputable abbrev eWaitN : Ent := .st (conS (P := Try.prog) (f := f_sched_Wait) fun cargs σ0 => match cargs, σ0 with
  | [.agg cs, .s (.loc 0 0)], [.blk 52 [.raw (.slice none 0 0)]] => withCore cs fun k hk => some ⟨.ret (.tup [.agg Core.zero.sv, .s (.int .i64 1)]) [.blk 52 [.raw (.slice none 0 0)]], by subst hk; exact Wait_0 k ⟩
  | [.agg cs, .s (.raw (.pointer none))], [] => withCore cs fun k hk => some ⟨.ret (.tup [.agg Core.zero.sv, .s (.int .i64 1)]) [], by subst hk; exact Wait_n k ⟩
  | _, _ => none)
noncomputable abbrev eSettleN : Ent := .st (conS (P := Try.prog) (f := f_sched_Settle) fun cargs σ0 => match cargs, σ0 with
  | [.agg cs, .s (.loc 0 0)], [.blk 52 [.raw (.slice none 0 0)]] => withCore cs fun k hk => some ⟨.ret (.tup [.agg Core.zero.sv, .s (.int .i64 1)]) [.blk 52 [.raw (.slice none 0 0)]], by subst hk; exact Settle_0 k ⟩
  | [.agg cs, .s (.raw (.pointer none))], [] => withCore cs fun k hk => some ⟨.ret (.tup [.agg Core.zero.sv, .s (.int .i64 1)]) [], by subst hk; exact Settle_n k ⟩
  | _, _ => none)
noncomputable abbrev eSliceN : Ent := .st (conS (P := Try.prog) (f := f_sched_Slice) fun cargs σ0 => match cargs, σ0 with
  | [.agg cs, .s (.loc 0 0)], [.blk 52 [.raw (.slice none 0 0)]] => withCore cs fun k hk => some ⟨.ret (.tup [.agg Core.zero.sv, .s (.int .i64 1)]) [.blk 52 [.raw (.slice none 0 0)]], by subst hk; exact Slice_0 k ⟩
  | [.agg cs, .s (.raw (.pointer none))], [] => withCore cs fun k hk => some ⟨.ret (.tup [.agg Core.zero.sv, .s (.int .i64 1)]) [], by subst hk; exact Slice_n k ⟩
  | _, _ => none)
noncomputable abbrev eExecN : Ent := .st (conS (P := Try.prog) (f := f_sched_Exec) fun cargs σ0 => match cargs, σ0 with
  | [.agg cs, .s (.loc 0 0), .agg [.int .u8 fn, .int .i32 o]], [.blk 52 [.raw (.slice none 0 0)]] => withCore cs fun k hk => some ⟨.ret (.tup [.agg Core.zero.sv, .s (.int .i64 1)]) [.blk 52 [.raw (.slice none 0 0)]], by subst hk; exact Exec_0 k fn o⟩
  | [.agg cs, .s (.raw (.pointer none)), .agg [.int .u8 fn, .int .i32 o]], [] => withCore cs fun k hk => some ⟨.ret (.tup [.agg Core.zero.sv, .s (.int .i64 1)]) [], by subst hk; exact Exec_n k fn o⟩
  | _, _ => none)
noncomputable abbrev ctSn : CT := [(f_sched_Queue, eQueueN), (f_sched_Append, eAppendN), (f_sched_Take, eTakeN), (f_sched_Wait, eWaitN), (f_sched_Settle, eSettleN), (f_sched_Slice, eSliceN), (f_sched_Exec, eExecN), (f_l29_head, eHead)]
theorem ctSn_ok : CTok Try.prog ctSn := ⟨con_ok cal_sched_Queue _, con_ok cal_sched_Append _, con_ok cal_sched_Take _, con_ok cal_sched_Wait _, con_ok cal_sched_Settle _, con_ok cal_sched_Slice _, con_ok cal_sched_Exec _, con_ok cal_l29_head _, trivial⟩
set_option maxHeartbeats 4000000 in
theorem SchedNone_c (k : Core) (desc pri fn n : Int) : Con Try.prog f_l29_SchedNone [.agg k.sv, .s (.int .i32 desc), .s (.int .i64 pri), .agg [.int .u8 fn, .int .i32 n]] [] (.ret (.t (.s (.bool true))) []) := by
  intro K hK
  refine enter fn_l29_SchedNone rfl nt_l29_SchedNone rfl rfl (fun φ w0 β0 F => ?_)
  refine c_run tt_ok ctSn_ok k_l29_SchedNone [] 90 (by kernel_rfl) ?_
  refine c_unroll 2 ?_
  refine c_run' tt_ok ctSn_ok k_l29_SchedNone [] 120 (by kernel_rfl) (by kernel_rfl) ?_
  repeat' (first | (refine And.intro ?_ ?_) | (intro h; exact absurd h (by decide)) | (refine fun _ => ?_))
  all_goals exact fin_k tt_ok (rs := rs_l29_SchedNone) rfl rfl hK [] rfl rfl rfl rfl rfl rfl
end Go.Proofs
