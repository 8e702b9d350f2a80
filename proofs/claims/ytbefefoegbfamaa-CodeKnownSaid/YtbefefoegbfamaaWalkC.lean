/- All. -/
import Derived.Test.YtbefefoegbfamaaWalkA
import Derived.Test.YtbefefoegbfamaaWalkB
import Derived.Test.YtbefefoegbfamaaSxD
import Derived.Test.YtbefefoegbfamaaSxC

namespace Go.Proofs
open Go Go.Sx
set_option maxRecDepth 10000
def insV : List (Int × Int) → List Value
  | [] => []
  | p :: t => .int .u8 p.1 :: .int .i32 p.2 :: insV t
theorem insV_len : ∀ l : List (Int × Int), (insV l).length = l.length * 2
  | [] => rfl
  | _ :: t => by show (insV t).length + 2 = _; rw [insV_len t]; simp only [List.length_cons]; omega
theorem insV_append : ∀ (a b : List (Int × Int)), insV (a ++ b) = insV a ++ insV b
  | [], _ => rfl
  | p :: t, b => by show _ :: _ :: insV (t ++ b) = _; rw [insV_append t b]; rfl
theorem insV_one : ∀ (l : List (Int × Int)), ∀ u ∈ insV l, u.oneCell' = true
  | [], u, h => by cases h
  | p :: t, u, h => by
    rcases List.mem_cons.1 h with rfl | h
    · rfl
    · rcases List.mem_cons.1 h with rfl | h
      · rfl
      · exact insV_one t u h
/-- What All finds, one after the other; an error ends it. -/
def allA : Nat → List Int → List (Int × Int) → List (Int × Int) × Int
  | 0, _, L => (L, 0)
  | f + 1, bs, L => if bs.length = 0 then (L, 0) else if (getS bs).2.2.2 = 0 then allA f (bs.drop (getS bs).2.2.1.toNat) (L ++ [((getS bs).1, (getS bs).2.1)]) else ([], (getS bs).2.2.2)
def allS (bs : List Int) : List (Int × Int) × Int := if bs.length > 32768 then ([], 3) else allA bs.length bs []
def rdGet : List RA → (Prop → Prop) → (FV → Prop) → Option Prop
  | [.row xs n _], ask, k => some (∃ l : List Int, ask (xs = bytesI l ∧ l.length = n) ∧ k (.tup [.agg [.int .u8 (getS l).1, .int .i32 (getS l).2.1], .s (.int .i64 (getS l).2.2.1), .s (.int .i64 (getS l).2.2.2)]))
  | _, _, _ => none
theorem re_get : REok Try.prog f_code_Get rdGet := ⟨cal_code_Get, fun args ask k R h hR => by
  unfold rdGet at h
  split at h
  · cases h
    obtain ⟨l, h1, h2⟩ := hR
    refine ⟨_, h2, rfl, fun hp => ?_⟩
    obtain ⟨rfl, rfl⟩ := hp _ h1
    exact Get_c l _
  · cases h⟩
noncomputable abbrev ctEach : CT := []
noncomputable abbrev ctAll : CT := [(f_code_Get, .rd rdGet), (f_code_each, in_code_each [])]
theorem ctAll_ok : CTok Try.prog ctAll := ⟨re_get, in_code_each_ok (ct := []) trivial, trivial⟩
theorem allS_far {bs : List Int} (h : decide ((bs.length : Int) > 32768) = true) : allS bs = ([], 3) := by
  unfold allS; rw [if_pos (by have := of_decide_eq_true h; omega)]
theorem allS_in {bs : List Int} (h : decide ((bs.length : Int) > 32768) = false) : allS bs = allA bs.length bs [] := by
  unfold allS; rw [if_neg (by have := of_decide_eq_false h; omega)]
set_option maxHeartbeats 1000000 in
theorem All_c (bs : List Int) (cap : Nat) (hc : bs.length ≤ cap) : Con Try.prog f_code_All [.s (.sl 0 0 bs.length cap)] [.view (bytesI bs)]
    (.br ((allS bs).2 == 0) (.all Nat (fun c => (allS bs).1.length ≤ c) fun c => .ret (.tup [.s (.sl 1 0 (allS bs).1.length c), .s (.int .i64 0)]) [.view (bytesI bs), .own 26 2 c (insV (allS bs).1)])
      (.ret (.tup [.s (.raw (.slice none 0 0)), .s (.int .i64 (allS bs).2)]) [.view (bytesI bs)])) := by
  intro K ⟨hK1, hK2⟩
  refine enterM fn_code_All rfl nt_code_All rfl rfl (fun φ w0 β0 F => ?_)
  refine c_run tt_ok ctAll_ok k_code_All [] 60 (by kernel_rfl) ?_
  refine c_scope rfl ?_
  refine c_run tt_ok ctAll_ok k_code_All [] 60 (by kernel_rfl) ?_
  refine ⟨fun h => ?_, fun h => ?_⟩
  · refine e_scope (by simp) ?_
    refine finM0 (.inr rfl) rfl ?_
    have hK := hK2 (by rw [allS_far h]; rfl)
    rw [allS_far h] at hK
    exact fin_k tt_ok (rs := rs_code_All) rfl rfl hK [0] rfl rfl rfl rfl rfl rfl
  · have hlen : bs.length ≤ 32768 := by have := of_decide_eq_false h; omega
    rw [allS_in h] at hK1 hK2
    refine c_label ?_
    refine WpE.into (aliasSlot 0 0 0 bs.length cap rfl rfl) ?_
    refine e_run tt_ok ctAll_ok k_code_All [] 60 (by kernel_rfl) ?_
    show WpC _ _ _ _ _
    refine c_nil 1 26 2 rfl ?_
    refine WpC.into (fr' := [(4, .t (.s (.loc 1 0)), none), (5, .t (.s (.loc 2 0)), none), (12, .t (.clo (.func 34) [] [.loc 3 0]), none)])
      (σ' := [.view (bytesI bs), .blk 47 [.sl 5 0 0 0], .blk 27 [.int .i64 0], .blk 22 [.sl 4 0 bs.length cap], .view (bytesI bs), .own 26 2 0 []])
      (into [0, 1, 2, 4, 3, 5] ⟨⟨_, rfl, rfl⟩, ⟨_, rfl, rfl⟩, ⟨_, rfl, rfl⟩, trivial⟩ ⟨_, rfl, ?_⟩ rfl rfl rfl rfl) ?_
    · rw [show seg (bytesI bs) 0 bs.length = bytesI bs by rw [seg_bytesI, List.drop_zero, List.take_length]]; rfl
    refine c_range 4 rfl rfl rfl rfl rfl rfl cal_code_each_1 fn_code_each_1 rfl nt_code_each_1 rfl rfl rfl (fun G hok => ?_)
    refine c_run tt_ok ctAll_ok k_code_each_1 [] 60 (by kernel_rfl) ?_
    show WpC _ _ _ _ _
    refine c_loop (α := Nat × Nat × List (Int × Int) × Nat × Nat) (fun x => x.1 ≤ bs.length ∧ x.1 ≤ x.2.1 ∧ x.2.2.1.length + x.1 ≤ bs.length ∧ x.2.2.1.length ≤ x.2.2.2.1 ∧ x.1 ≤ x.2.2.2.2 ∧ allA bs.length bs [] = allA x.2.2.2.2 (bs.drop (bs.length - x.1)) x.2.2.1) (fun x => x.1)
      (fun x => [(0, .t (.s (.raw (.func (.yield G.l) #[] #[]))), none), (1, .t (.s (.loc 3 0)), none)])
      (fun x => [.view (bytesI bs), .blk 47 [.sl 5 0 x.2.2.1.length x.2.2.2.1], .blk 27 [.int .i64 0], .blk 22 [.sl 4 0 x.1 x.2.1], .view (bytesI (bs.drop (bs.length - x.1))), .own 26 2 x.2.2.2.1 (insV x.2.2.1)]) (bs.length, cap, [], 0, bs.length) ?_ ?_ ?_
    · exact ⟨Nat.le_refl _, hc, by simp, Nat.le_refl _, Nat.le_refl _, by simp⟩
    · exact into [0, 1, 2, 3, 4, 5] ⟨⟨_, rfl, rfl⟩, ⟨_, rfl, rfl⟩, trivial⟩ ⟨_, rfl, by simp [Ch.rn, SV.rn, insV]⟩ rfl rfl rfl rfl
    · rintro ⟨n, cp, L, c, f⟩ ⟨hn, hcp, hL, hLc, hf, hlaw⟩
      simp only at hn hcp hL hLc hf hlaw
      dsimp only
      refine c_run' tt_ok ctAll_ok k_code_each_1 [18] 60 (by kernel_rfl) (by kernel_rfl) ?_
      refine ⟨fun h1 => ?_, fun h1 => ?_⟩
      · have hpos : 0 < n := by have := of_decide_eq_true h1; omega
        obtain ⟨f, rfl⟩ : ∃ f', f = f' + 1 := ⟨f - 1, by omega⟩
        have hdl : (bs.drop (bs.length - n)).length = n := by rw [List.length_drop]; omega
        have hstep : allA (f + 1) (bs.drop (bs.length - n)) L = if (getS (bs.drop (bs.length - n))).2.2.2 = 0 then allA f ((bs.drop (bs.length - n)).drop (getS (bs.drop (bs.length - n))).2.2.1.toNat) (L ++ [((getS (bs.drop (bs.length - n))).1, (getS (bs.drop (bs.length - n))).2.1)]) else ([], (getS (bs.drop (bs.length - n))).2.2.2) := by
          rw [allA, if_neg (by rw [hdl]; omega)]
        rw [hstep] at hlaw
        refine ⟨bs.drop (bs.length - n), ⟨?_, hdl⟩, ?_⟩
        · rw [seg_bytesI, List.drop_zero, Nat.mul_one, List.take_of_length_le (by rw [hdl]; omega)]
        have hfront := front_law (bs.drop (bs.length - n))
        rw [hdl] at hfront
        obtain ⟨⟨r0, r1, r2, r3⟩, hg⟩ : ∃ r, getS (bs.drop (bs.length - n)) = r := ⟨_, rfl⟩
        rw [hg] at hlaw hfront ⊢
        dsimp only at hlaw hfront
        show WpL _ _ _ _ _ _
        refine l_yield hok rfl rfl rfl trivial rfl rfl rfl rfl rfl (fun D => ?_)
        refine c_run tt_ok ctAll_ok k_code_All [] 60 (by kernel_rfl) ?_
        show WpE _ _ _ _ _
        refine rnd_begin hok D ?_
        refine c_run tt_ok ctAll_ok k_code_All [] 60 (by kernel_rfl) ?_
        refine ⟨fun h2 => ?_, fun h2 => ?_⟩
        · have he : r3 ≠ 0 := by simpa using h2
          rw [if_neg he] at hlaw
          show WpE _ _ _ _ _
          refine rnd_end hok D rfl rfl (.inr (.inr ⟨0, rfl, rfl⟩)) ?_
          refine l_run tt_ok ctAll_ok k_code_each_1 [] 60 (by kernel_rfl) (by kernel_rfl) ?_
          refine ⟨fun _ => ?_, fun h => absurd h (by simp)⟩
          show WpE _ _ _ _ _
          refine it_end hok (.inr rfl) rfl (by simp [stOf]) rfl ?_
          refine e_run tt_ok ctAll_ok k_code_All [] 60 (by kernel_rfl) ?_
          show WpE _ _ _ _ _
          refine e_scope (by simp) ?_
          refine finM hok rfl (.inr (.inl rfl)) ?_
          rw [hlaw] at hK2
          exact fin_k tt_ok (rs := rs_code_All) rfl rfl (hK2 (by simpa using he)) [0] rfl rfl rfl rfl rfl rfl
        · have he : r3 = 0 := by simpa using h2
          subst he
          rw [if_pos rfl] at hlaw
          obtain ⟨m, hm1, hm2, hm3, _⟩ := hfront rfl
          subst hm1
          refine ⟨⟨rfl, insV_len L, Nat.le_refl _, fun u hu => ?_, by simp only [maxLen]; omega, by omega⟩, fun c1 hc1 hc2 => ?_⟩
          · rcases List.mem_cons.1 (List.mem_of_mem_drop (List.mem_of_mem_take hu)) with rfl | hu
            · rfl
            · rw [List.mem_singleton.1 hu]; rfl
          show WpE _ _ _ _ _
          refine rnd_end hok D rfl rfl (.inl ⟨rfl, rfl⟩) ?_
          refine l_run tt_ok ctAll_ok k_code_each_1 [] 60 (by kernel_rfl) (by kernel_rfl) ?_
          refine ⟨fun h => absurd h (by simp), fun _ => ?_⟩
          refine ⟨m, n, ⟨_, _, rfl, rfl, rfl, rfl⟩, ⟨hm3, hcp⟩, ?_⟩
          refine e_again (n - m, cp - m, L ++ [(r0, r1)], c1, f) ⟨by simp only; omega, by simp only; omega, by simp only [List.length_append, List.length_cons, List.length_nil]; omega, by simpa using hc1, by simp only; omega, ?_⟩ (by simp only; omega) (into [0, 1, 2, 3, 10, 9] ⟨⟨_, rfl, rfl⟩, ⟨_, rfl, rfl⟩, trivial⟩ ⟨_, rfl, ?_⟩ rfl rfl rfl rfl)
          · rw [hlaw, List.drop_drop]
            simp only [Int.toNat_natCast]
            rw [show bs.length - n + m = bs.length - (n - m) by omega]
          · have e1 : seg (bytesI (List.drop (bs.length - n) bs)) (0 + m * 1) ((n - m) * 1) = bytesI (List.drop (bs.length - (n - m)) bs) := by
              rw [seg_bytesI, List.drop_drop, Nat.mul_one, Nat.mul_one, Nat.zero_add, show bs.length - n + m = bs.length - (n - m) by omega, List.take_of_length_le (by rw [List.length_drop]; omega)]
            have e2 : insV (L ++ [(r0, r1)]) = insV L ++ seg (List.map SV.cv [SV.int IntKind.u8 r0, SV.int IntKind.i32 r1]) 0 (1 * 2) := by rw [insV_append]; rfl
            dsimp only
            rw [e1, e2, show L.length + 1 = (L ++ [(r0, r1)]).length by simp]
            rfl
      · have hz : n = 0 := by have := of_decide_eq_false h1; omega
        subst hz
        have hfin : allA f (bs.drop (bs.length - 0)) L = (L, 0) := by
          cases f with
          | zero => rfl
          | succ f => rw [allA, if_pos (by simp)]
        rw [hfin] at hlaw
        rw [hlaw] at hK1
        show WpE _ _ _ _ _
        refine it_end hok (.inl rfl) rfl (by simp) rfl ?_
        refine e_run tt_ok ctAll_ok k_code_All [] 60 (by kernel_rfl) ?_
        show WpE _ _ _ _ _
        refine e_scope (by simp) ?_
        refine finM hok rfl (.inr (.inl rfl)) ?_
        exact fin_k tt_ok (rs := rs_code_All) rfl rfl (hK1 rfl c hLc) [0, 5] rfl rfl rfl rfl rfl rfl
end Go.Proofs

namespace Go.Proofs
open Go Go.Sx
set_option maxRecDepth 10000
def joinB (L : List (Int × Int)) : List Int := L.flatMap fun p => putF 7 p.1 p.2
def allV (L : List (Int × Int)) : Bool := L.all fun p => validS p.1
def joinE (L : List (Int × Int)) : Int := if allV L = true then (if (joinB L).length > 32768 then 3 else 0) else 2
def GoodL (L : List (Int × Int)) : Prop := ∀ p ∈ L, InI32 p.2
theorem tri_call {P : Program} {f : FuncId} {args : List TV} {σ0 : List Ch} {γ : Type} {pc : γ → Prop} {fv : γ → FV} {σ1 : γ → List Ch} (h : TriS P f args σ0 pc fv σ1) {K : FV → List Ch → Prop} (hk : ∀ x, pc x → K (fv x) (σ1 x)) : CallS P f args σ0 K :=
  ⟨fun β φ w hs => (h.h β φ w hs).mono fun _e _w' ⟨x, β', hx, hr⟩ => ⟨(fv x, σ1 x), β', hk x hx, hr⟩⟩
noncomputable abbrev ePut : Ent := .st (conS (P := Try.prog) (f := f_code_put) fun cargs σ0 => match cargs, σ0 with
  | [.s (.sl 0 0 n cap), .s (.int .u8 fn), .s (.int .i32 v)], [.own 5 1 c xs] => some ⟨.ex (List Int) fun l => .ask (xs = bytesI l ∧ n = l.length ∧ c = cap ∧ PutOk 7 v ∧ l.length + 7 ≤ 100000)
      (.all Nat (fun c => (l ++ putF 7 fn v).length ≤ c) fun c => .ret (.t (.s (.sl 1 0 (l ++ putF 7 fn v).length c))) [.dead, .own 5 1 c (bytesI (l ++ putF 7 fn v))]), fun K h => by
      obtain ⟨l, ⟨e1, e2, e3, h1, h2⟩, h⟩ := h
      subst e1; subst e2; subst e3
      exact tri_call (putOwn_c 7 fn v l c h1 h2) h⟩
  | _, _ => none)
theorem row_at : ∀ {L : List (Int × Int)} {i : Nat} {p : Int × Int}, L[i]? = some p → seg (insV L) (i * 2) 2 = [.int .u8 p.1, .int .i32 p.2]
  | [], i, p, h => by simp at h
  | q :: t, 0, p, h => by simp at h; subst h; rfl
  | q :: t, i + 1, p, h => by
    have := row_at (L := t) (i := i) (p := p) (by simpa using h)
    rw [show (i + 1) * 2 = i * 2 + 1 + 1 by omega]
    exact this
theorem joinB_len : ∀ L : List (Int × Int), (joinB L).length ≤ L.length * 8
  | [] => Nat.zero_le _
  | p :: t => by
    have h1 := joinB_len t
    have h2 := putF_length 7 p.1 p.2
    show (putF 7 p.1 p.2 ++ joinB t).length ≤ _
    simp only [List.length_append, List.length_cons]
    omega
theorem joinB_snoc {L : List (Int × Int)} {i : Nat} {p : Int × Int} (h : L[i]? = some p) : joinB (L.take (i + 1)) = joinB (L.take i) ++ putF 7 p.1 p.2 := by
  have hlt := (List.getElem?_eq_some_iff.1 h).1
  rw [List.take_add_one, h]
  unfold joinB
  rw [List.flatMap_append]
  simp
theorem allV_get {L : List (Int × Int)} {i : Nat} {p : Int × Int} (h : L[i]? = some p) (hv : validS p.1 = false) : allV L = false := by
  unfold allV
  rw [List.all_eq_false]
  exact ⟨p, List.mem_of_getElem? h, by rw [hv]; simp⟩
theorem allV_all {L : List (Int × Int)} (h : ∀ (i : Nat) (p : Int × Int), L[i]? = some p → validS p.1 = true) : allV L = true := by
  unfold allV
  rw [List.all_eq_true]
  intro p hp
  obtain ⟨i, hi⟩ := List.getElem?_of_mem hp
  exact h i p hi
noncomputable abbrev ctJo : CT := [(f_code_valid, .pure sp29), (f_code_Len, .pure sp15), (f_code_put, ePut)]
theorem ctJo_ok : CTok Try.prog ctJo := ⟨ce29, ce15, con_ok cal_code_put _, trivial⟩
theorem Join_c (L : List (Int × Int)) (cap : Nat) (hg : GoodL L) (_hc : L.length ≤ cap) (hn : L.length ≤ 40000) : Con Try.prog f_code_Join [.s (.sl 0 0 L.length cap)] [.view (insV L)]
    (.br (joinE L == 0) (.all Nat (fun c => (joinB L).length ≤ c) fun c => .ret (.tup [.s (.sl 1 0 (joinB L).length c), .s (.int .i64 0)]) [.view (insV L), .own 5 1 c (bytesI (joinB L))])
      (.ret (.tup [.s (.raw (.slice none 0 0)), .s (.int .i64 (joinE L))]) [.view (insV L)])) := by
  intro K ⟨hK1, hK2⟩
  refine enter fn_code_Join rfl nt_code_Join rfl rfl (fun φ w0 β0 F => ?_)
  refine c_run tt_ok ctJo_ok k_code_Join [] 90 (by kernel_rfl) ?_
  show WpC _ _ _ _ _
  refine c_loop (α := Nat) (fun i => i ≤ L.length ∧ ∀ (j : Nat) (p : Int × Int), j < i → L[j]? = some p → validS p.1 = true) (fun i => L.length - i)
    (fun i => [(0, .t (.s (.sl 0 0 L.length cap)), none), (4, .t (.s (.int .i64 ((joinB (L.take i)).length : Int))), none), (10, .t (.s (.sl 0 0 L.length cap)), none), (11, .t (.s (.int .i64 (L.length : Int))), none), (12, .t (.s (.int .i64 (i : Int))), none)])
    (fun _ => [.view (insV L)]) 0 ⟨Nat.zero_le _, fun j p hj => absurd hj (Nat.not_lt_zero _)⟩ ?_ ?_
  · exact into [0] ⟨⟨_, rfl, rfl⟩, ⟨_, rfl, rfl⟩, ⟨_, rfl, rfl⟩, ⟨_, rfl, rfl⟩, ⟨_, rfl, rfl⟩, trivial⟩ ⟨_, rfl, rfl⟩ rfl rfl rfl rfl
  · intro i ⟨hi, hv⟩
    dsimp only
    refine c_run' tt_ok ctJo_ok k_code_Join [] 90 (by kernel_rfl) (by kernel_rfl) ?_
    refine ⟨fun h => ?_, fun h => ?_⟩
    · have hlt : i < L.length := by have := of_decide_eq_true h; omega
      obtain ⟨p, hp⟩ : ∃ p, L[i]? = some p := ⟨_, List.getElem?_eq_getElem hlt⟩
      have hrow := row_at hp
      obtain ⟨f, v⟩ := p
      dsimp only at hrow
      have hI := hg _ (List.mem_of_getElem? hp)
      dsimp only at hI
      refine ⟨i, ⟨rfl, hlt, by show 0 + (i + 1) * 2 ≤ _; rw [insV_len]; omega⟩, [.int .u8 f, .int .i32 v], rfl, ⟨Nat.le_refl 2, by rw [show 0 + i * (1 + 1) = i * 2 by omega]; exact hrow⟩, ?_⟩
      refine ⟨trivial, fun h1 => ?_, fun h1 => ?_⟩
      · have hb : validS f = false := by simpa using h1
        have hE : joinE L = 2 := by unfold joinE; rw [allV_get hp hb]; rfl
        have hK := hK2 (by rw [hE]; rfl)
        rw [hE] at hK
        exact fin_k tt_ok (rs := rs_code_Join) rfl rfl hK [0] rfl rfl rfl rfl rfl rfl
      · have hb : validS f = true := by simpa using h1
        refine ⟨putOk7 hI, ?_⟩
        have hl1 := joinB_len (L.take i)
        have hl2 := putF_length 7 f v
        rw [List.length_take] at hl1
        refine e_again (i + 1) ⟨by omega, fun j p hj hq => ?_⟩ (by omega) (into [0] ⟨⟨_, rfl, rfl⟩, ⟨_, rfl, fvi ?_⟩, ⟨_, rfl, rfl⟩, ⟨_, rfl, rfl⟩, ⟨_, rfl, fvi (wrapSucc (by omega))⟩, trivial⟩ ⟨_, rfl, rfl⟩ rfl rfl rfl rfl)
        · rcases Nat.lt_or_ge j i with h2 | h2
          · exact hv j p h2 hq
          · rw [show j = i by omega, hp] at hq; cases hq; exact hb
        · unfold lenS
          rw [if_pos hb, joinB_snoc hp, List.length_append, wrap64 (by omega) (by omega)]
          simp
    · have hge : i = L.length := by have := of_decide_eq_false h; omega
      subst hge
      have hA : allV L = true := allV_all fun j p hq => hv j p (List.getElem?_eq_some_iff.1 hq).1 hq
      rw [List.take_length]
      refine ⟨fun h1 => ?_, fun h1 => ?_⟩
      · have hE : joinE L = 3 := by unfold joinE; rw [if_pos hA, if_pos (by have := of_decide_eq_true h1; omega)]
        have hK := hK2 (by rw [hE]; rfl)
        rw [hE] at hK
        exact fin_k tt_ok (rs := rs_code_Join) rfl rfl hK [0] rfl rfl rfl rfl rfl rfl
      · have hle : (joinB L).length ≤ 32768 := by have := of_decide_eq_false h1; omega
        have hE : joinE L = 0 := by unfold joinE; rw [if_pos hA, if_neg (by omega)]
        refine ⟨0, (joinB L).length, ⟨rfl, rfl, Nat.zero_le _, by simp only [maxLen]; omega, by omega⟩, ?_⟩
        show WpC _ _ _ _ _
        refine c_loop (α := Nat × Nat) (fun x => x.1 ≤ L.length ∧ (joinB (L.take x.1)).length ≤ x.2) (fun x => L.length - x.1)
          (fun x => [(7, .t (.s (.sl 1 0 (joinB (L.take x.1)).length x.2)), none), (28, .t (.s (.sl 0 0 L.length cap)), none), (29, .t (.s (.int .i64 (L.length : Int))), none), (30, .t (.s (.int .i64 (x.1 : Int))), none)])
          (fun x => [.view (insV L), .own 5 1 x.2 (bytesI (joinB (L.take x.1)))]) (0, (joinB L).length) ⟨Nat.zero_le _, Nat.zero_le _⟩ ?_ ?_
        · exact into [0, 1] ⟨⟨_, rfl, rfl⟩, ⟨_, rfl, rfl⟩, ⟨_, rfl, rfl⟩, ⟨_, rfl, rfl⟩, trivial⟩ ⟨_, rfl, rfl⟩ rfl rfl rfl rfl
        · rintro ⟨i, c⟩ ⟨hi2, hcc⟩
          simp only at hi2 hcc
          dsimp only
          refine c_run' tt_ok ctJo_ok k_code_Join [] 90 (by kernel_rfl) (by kernel_rfl) ?_
          refine ⟨fun h => ?_, fun h => ?_⟩
          · have hlt : i < L.length := by have := of_decide_eq_true h; omega
            obtain ⟨p, hp⟩ : ∃ p, L[i]? = some p := ⟨_, List.getElem?_eq_getElem hlt⟩
            have hrow := row_at hp
            obtain ⟨f, v⟩ := p
            dsimp only at hrow
            have hI := hg _ (List.mem_of_getElem? hp)
            dsimp only at hI
            have hl1 := joinB_len (L.take i)
            rw [List.length_take] at hl1
            have hl3 : (joinB (L.take i)).length ≤ (joinB L).length := by
              unfold joinB
              rw [← List.take_append_drop i L, List.flatMap_append, List.length_append, List.take_append_drop]
              omega
            refine ⟨i, ⟨rfl, hlt, by show 0 + (i + 1) * 2 ≤ _; rw [insV_len]; omega⟩, [.int .u8 f, .int .i32 v], rfl, ⟨Nat.le_refl 2, by rw [show 0 + i * (1 + 1) = i * 2 by omega]; exact hrow⟩, ?_⟩
            refine ⟨joinB (L.take i), ⟨rfl, rfl, rfl, putOk7 hI, by omega⟩, fun c2 hc2 => ?_⟩
            rw [← joinB_snoc hp] at *
            exact e_again (i + 1, c2) ⟨by show i + 1 ≤ _; omega, hc2⟩ (by show L.length - (i + 1) < L.length - i; omega) (into [0, 3] ⟨⟨_, rfl, rfl⟩, ⟨_, rfl, rfl⟩, ⟨_, rfl, rfl⟩, ⟨_, rfl, fvi (wrapSucc (by omega))⟩, trivial⟩ ⟨_, rfl, rfl⟩ rfl rfl rfl rfl)
          · have hge : i = L.length := by have := of_decide_eq_false h; omega
            subst hge
            rw [List.take_length] at hcc ⊢
            exact fin_k tt_ok (rs := rs_code_Join) rfl rfl (hK1 (by rw [hE]; rfl) c hcc) [0, 1] rfl rfl rfl rfl rfl rfl
end Go.Proofs

namespace Go.Proofs
open Go Go.Sx
set_option maxRecDepth 10000
def GoodR (L : List (Int × Int)) : Prop := ∀ p ∈ L, 0 ≤ p.1 ∧ InI32 p.2
noncomputable abbrev eRPut : Ent := .st (conS (P := Try.prog) (f := f_r04_Put) fun cargs σ0 => match cargs, σ0 with
  | [.agg [.int .u8 fn, .int .i32 v]], [] => some ⟨.ask ((0 ≤ fn ∧ InI32 v) ∧ validS fn = true) (.all Nat (fun c => (putF 7 fn v).length ≤ c) fun c => .ret (.tup [.s (.sl 0 0 (putF 7 fn v).length c), .s (.int .i64 0)]) [.own 5 1 c (bytesI (putF 7 fn v))]), fun K h => by
      obtain ⟨⟨⟨h1, h2⟩, h3⟩, h⟩ := h
      have hp := puts_law h1 h2
      have e1 : rputS fn v = putF 7 fn v := by rw [hp.1]; unfold putS; rw [if_pos h3]
      have e2 : rputE fn = 0 := by rw [hp.2.1]; unfold putE; rw [if_pos h3]
      have := RefPut_all fn v (enc7 h2)
      rw [e1, e2] at this
      exact tri_call this h⟩
  | _, _ => none)
noncomputable abbrev ctRj : CT := [(f_r04_Valid, .pure sp31), (f_r04_Put, eRPut)]
theorem ctRj_ok : CTok Try.prog ctRj := ⟨ce31, con_ok cal_r04_Put _, trivial⟩
theorem RJoin_c (L : List (Int × Int)) (cap : Nat) (hg : GoodR L) (_hc : L.length ≤ cap) (hn : L.length ≤ 40000) : Con Try.prog f_r04_Join [.s (.sl 0 0 L.length cap)] [.view (insV L)]
    (.br (joinE L == 0) (.all Nat (fun c => (joinB L).length ≤ c) fun c => .ret (.tup [.s (.sl 1 0 (joinB L).length c), .s (.int .i64 0)]) [.view (insV L), .own 5 1 c (bytesI (joinB L))])
      (.ret (.tup [.s (.raw (.slice none 0 0)), .s (.int .i64 (joinE L))]) [.view (insV L)])) := by
  intro K ⟨hK1, hK2⟩
  refine enter fn_r04_Join rfl nt_r04_Join rfl rfl (fun φ w0 β0 F => ?_)
  refine c_run tt_ok ctRj_ok k_r04_Join [] 90 (by kernel_rfl) ?_
  show WpC _ _ _ _ _
  refine c_loop (α := Nat) (fun i => i ≤ L.length ∧ ∀ (j : Nat) (p : Int × Int), j < i → L[j]? = some p → validS p.1 = true) (fun i => L.length - i)
    (fun i => [(0, .t (.s (.sl 0 0 L.length cap)), none), (4, .t (.s (.int .i64 (i : Int))), none)])
    (fun _ => [.view (insV L)]) 0 ⟨Nat.zero_le _, fun j p hj => absurd hj (Nat.not_lt_zero _)⟩ ?_ ?_
  · exact into [0] ⟨⟨_, rfl, rfl⟩, ⟨_, rfl, rfl⟩, trivial⟩ ⟨_, rfl, rfl⟩ rfl rfl rfl rfl
  · intro i ⟨hi, hv⟩
    dsimp only
    refine c_run' tt_ok ctRj_ok k_r04_Join [] 90 (by kernel_rfl) (by kernel_rfl) ?_
    refine ⟨fun h => ?_, fun h => ?_⟩
    · have hlt : i < L.length := by have := of_decide_eq_true h; omega
      obtain ⟨p, hp⟩ : ∃ p, L[i]? = some p := ⟨_, List.getElem?_eq_getElem hlt⟩
      have hrow := row_at hp
      obtain ⟨f, v⟩ := p
      dsimp only at hrow
      refine ⟨i, ⟨rfl, hlt, by show 0 + (i + 1) * 2 ≤ _; rw [insV_len]; omega⟩, [.int .u8 f, .int .i32 v], rfl, ⟨Nat.le_refl 2, by rw [show 0 + i * (1 + 1) = i * 2 by omega]; exact hrow⟩, ?_⟩
      refine ⟨trivial, fun h1 => ?_, fun h1 => ?_⟩
      · have hb : validS f = false := by rw [← refValid_eq]; simpa using h1
        have hE : joinE L = 2 := by unfold joinE; rw [allV_get hp hb]; rfl
        have hK := hK2 (by rw [hE]; rfl)
        rw [hE] at hK
        exact fin_k tt_ok (rs := rs_r04_Join) rfl rfl hK [0] rfl rfl rfl rfl rfl rfl
      · have hb : validS f = true := by rw [← refValid_eq]; simpa using h1
        refine e_again (i + 1) ⟨by omega, fun j p hj hq => ?_⟩ (by omega) (into [0] ⟨⟨_, rfl, rfl⟩, ⟨_, rfl, fvi (wrapSucc (by omega))⟩, trivial⟩ ⟨_, rfl, rfl⟩ rfl rfl rfl rfl)
        rcases Nat.lt_or_ge j i with h2 | h2
        · exact hv j p h2 hq
        · rw [show j = i by omega, hp] at hq; cases hq; exact hb
    · have hge : i = L.length := by have := of_decide_eq_false h; omega
      subst hge
      have hA : allV L = true := allV_all fun j p hq => hv j p (List.getElem?_eq_some_iff.1 hq).1 hq
      show WpC _ _ _ _ _
      refine WpC.into (nilSlot 5 5 1 rfl) ?_
      refine c_loop (α := Nat × Nat) (fun x => x.1 ≤ L.length ∧ (joinB (L.take x.1)).length ≤ x.2 ∧ (joinB (L.take x.1)).length ≤ 32768) (fun x => L.length - x.1)
        (fun x => [(0, .t (.s (.sl 0 0 L.length cap)), none), (5, .t (.s (.sl 1 0 (joinB (L.take x.1)).length x.2)), none), (6, .t (.s (.int .i64 (x.1 : Int))), none)])
        (fun x => [.view (insV L), .own 5 1 x.2 (bytesI (joinB (L.take x.1)))]) (0, 0) ⟨Nat.zero_le _, Nat.le_refl _, Nat.zero_le _⟩ ?_ ?_
      · exact into [0, 1] ⟨⟨_, rfl, rfl⟩, ⟨_, rfl, rfl⟩, ⟨_, rfl, rfl⟩, trivial⟩ ⟨_, rfl, rfl⟩ rfl rfl rfl rfl
      · rintro ⟨i, c⟩ ⟨hi2, hcc, hle⟩
        simp only at hi2 hcc hle
        dsimp only
        refine c_run' tt_ok ctRj_ok k_r04_Join [] 90 (by kernel_rfl) (by kernel_rfl) ?_
        refine ⟨fun h => ?_, fun h => ?_⟩
        · have hlt : i < L.length := by have := of_decide_eq_true h; omega
          obtain ⟨p, hp⟩ : ∃ p, L[i]? = some p := ⟨_, List.getElem?_eq_getElem hlt⟩
          have hrow := row_at hp
          have hvp := hv i p hlt hp
          obtain ⟨f, v⟩ := p
          dsimp only at hrow hvp
          have hI := hg _ (List.mem_of_getElem? hp)
          dsimp only at hI
          have hl1 := putF_length 7 f v
          have hs := joinB_snoc hp
          dsimp only at hs
          have hl3 : (joinB (L.take (i + 1))).length ≤ (joinB L).length := by
            conv => rhs; rw [← List.take_append_drop (i + 1) L]
            unfold joinB
            rw [List.flatMap_append, List.length_append]
            omega
          refine ⟨i, ⟨rfl, hlt, by show 0 + (i + 1) * 2 ≤ _; rw [insV_len]; omega⟩, [.int .u8 f, .int .i32 v], rfl, ⟨Nat.le_refl 2, by rw [show 0 + i * (1 + 1) = i * 2 by omega]; exact hrow⟩, ?_⟩
          refine ⟨⟨hI, hvp⟩, fun c2 hc2 => ?_⟩
          refine ⟨⟨rfl, by simp, by simp, seg_one _ _ _ (bytesI_one _), by simp only [maxLen]; omega, by omega⟩, fun c3 hc3 hc4 => ?_⟩
          have e1 : bytesI (joinB (List.take i L)) ++ seg (bytesI (putF 7 f v)) 0 ((putF 7 f v).length * 1) = bytesI (joinB (L.take (i + 1))) := by
            rw [hs, bytesI_append, seg_bytesI, List.drop_zero, Nat.mul_one, List.take_length]
          have e2 : (joinB (List.take i L)).length + (putF 7 f v).length = (joinB (L.take (i + 1))).length := by rw [hs, List.length_append]
          refine ⟨fun h1 => ?_, fun h1 => ?_⟩
          · have hE : joinE L = 3 := by
              unfold joinE
              rw [if_pos hA, if_pos (by have := of_decide_eq_true h1; omega)]
            have hK := hK2 (by rw [hE]; rfl)
            rw [hE] at hK
            exact fin_k tt_ok (rs := rs_r04_Join) rfl rfl hK [0] rfl rfl rfl rfl rfl rfl
          · refine e_again (i + 1, c3) ⟨by show i + 1 ≤ _; omega, by show (joinB (L.take (i + 1))).length ≤ c3; omega, by have := of_decide_eq_false h1; show (joinB (L.take (i + 1))).length ≤ 32768; omega⟩ (by show L.length - (i + 1) < L.length - i; omega) (into [0, 3] ⟨⟨_, rfl, rfl⟩, ⟨_, rfl, by rw [e2]; rfl⟩, ⟨_, rfl, fvi (wrapSucc (by omega))⟩, trivial⟩ ⟨_, rfl, ?_⟩ rfl rfl rfl rfl)
            rw [e1]; rfl
        · have hge : i = L.length := by have := of_decide_eq_false h; omega
          subst hge
          rw [List.take_length] at hcc hle ⊢
          have hE : joinE L = 0 := by unfold joinE; rw [if_pos hA, if_neg (by omega)]
          exact fin_k tt_ok (rs := rs_r04_Join) rfl rfl (hK1 (by rw [hE]; rfl) c hcc) [0, 1] rfl rfl rfl rfl rfl rfl
end Go.Proofs

namespace Go.Proofs
open Go Go.Sx
set_option maxRecDepth 10000
def GoodB (bs : List Int) : Prop := ∀ x ∈ bs, 0 ≤ x ∧ x ≤ 255
def rdRGet : List RA → (Prop → Prop) → (FV → Prop) → Option Prop
  | [.row xs n _], ask, k => some (∃ l : List Int, ask (xs = bytesI l ∧ l.length = n ∧ GoodB l) ∧ k (.tup [.agg [.int .u8 (getS l).1, .int .i32 (getS l).2.1], .s (.int .i64 (getS l).2.2.1), .s (.int .i64 (getS l).2.2.2)]))
  | _, _, _ => none
theorem re_rget : REok Try.prog f_r04_Get rdRGet := ⟨cal_r04_Get, fun args ask k R h hR => by
  unfold rdRGet at h
  split at h
  · cases h
    obtain ⟨l, h1, h2⟩ := hR
    refine ⟨_, h2, rfl, fun hp => ?_⟩
    obtain ⟨rfl, rfl, h3⟩ := hp _ h1
    rw [getS_law l h3]
    exact RefGet_c l _
  · cases h⟩
noncomputable abbrev ctRa : CT := [(f_r04_Get, .rd rdRGet)]
theorem ctRa_ok : CTok Try.prog ctRa := ⟨re_rget, trivial⟩
set_option maxHeartbeats 1000000 in
theorem RAll_c (bs : List Int) (cap : Nat) (hg : GoodB bs) (hc : bs.length ≤ cap) : Con Try.prog f_r04_All [.s (.sl 0 0 bs.length cap)] [.view (bytesI bs)]
    (.br ((allS bs).2 == 0) (.all Nat (fun c => (allS bs).1.length ≤ c) fun c => .ret (.tup [.s (.sl 1 0 (allS bs).1.length c), .s (.int .i64 0)]) [.view (bytesI bs), .own 26 2 c (insV (allS bs).1)])
      (.ret (.tup [.s (.raw (.slice none 0 0)), .s (.int .i64 (allS bs).2)]) [.view (bytesI bs)])) := by
  intro K ⟨hK1, hK2⟩
  refine enter fn_r04_All rfl nt_r04_All rfl rfl (fun φ w0 β0 F => ?_)
  refine c_run tt_ok ctRa_ok k_r04_All [] 60 (by kernel_rfl) ?_
  refine ⟨fun h => ?_, fun h => ?_⟩
  · have hK := hK2 (by rw [allS_far h]; rfl)
    rw [allS_far h] at hK
    exact fin_k tt_ok (rs := rs_r04_All) rfl rfl hK [0] rfl rfl rfl rfl rfl rfl
  · have hlen : bs.length ≤ 32768 := by have := of_decide_eq_false h; omega
    rw [allS_in h] at hK1 hK2
    show WpC _ _ _ _ _
    refine WpC.into (nilSlot 4 26 2 rfl) ?_
    refine c_loop (α := Nat × List (Int × Int) × Nat × Nat) (fun x => x.1 ≤ bs.length ∧ x.2.1.length ≤ x.1 ∧ x.2.1.length ≤ x.2.2.1 ∧ bs.length ≤ x.2.2.2 + x.1 ∧ allA bs.length bs [] = allA x.2.2.2 (bs.drop x.1) x.2.1) (fun x => bs.length - x.1)
      (fun x => [(0, .t (.s (.sl 0 0 bs.length cap)), none), (4, .t (.s (.sl 1 0 x.2.1.length x.2.2.1)), none), (5, .t (.s (.int .i64 (x.1 : Int))), none)])
      (fun x => [.view (bytesI bs), .own 26 2 x.2.2.1 (insV x.2.1)]) (0, [], 0, bs.length) ?_ ?_ ?_
    · exact ⟨Nat.zero_le _, Nat.le_refl _, Nat.le_refl _, Nat.le_refl _, rfl⟩
    · exact into [0, 1] ⟨⟨_, rfl, rfl⟩, ⟨_, rfl, rfl⟩, ⟨_, rfl, rfl⟩, trivial⟩ ⟨_, rfl, rfl⟩ rfl rfl rfl rfl
    · rintro ⟨at_, L, c, f⟩ ⟨ha, hL, hLc, hf, hlaw⟩
      simp only at ha hL hLc hf hlaw
      dsimp only
      refine c_run' tt_ok ctRa_ok k_r04_All [] 60 (by kernel_rfl) (by kernel_rfl) ?_
      refine ⟨fun h1 => ?_, fun h1 => ?_⟩
      · have hpos : at_ < bs.length := by have := of_decide_eq_true h1; omega
        obtain ⟨f, rfl⟩ : ∃ f', f = f' + 1 := ⟨f - 1, by omega⟩
        have hdl : (bs.drop at_).length = bs.length - at_ := List.length_drop
        have hstep : allA (f + 1) (bs.drop at_) L = if (getS (bs.drop at_)).2.2.2 = 0 then allA f ((bs.drop at_).drop (getS (bs.drop at_)).2.2.1.toNat) (L ++ [((getS (bs.drop at_)).1, (getS (bs.drop at_)).2.1)]) else ([], (getS (bs.drop at_)).2.2.2) := by
          rw [allA, if_neg (by rw [hdl]; omega)]
        rw [hstep] at hlaw
        refine ⟨at_, bs.length, ⟨_, _, rfl, rfl, rfl, rfl⟩, ⟨by omega, by omega⟩, ?_⟩
        refine ⟨bs.drop at_, ⟨?_, hdl, fun x hx => hg x (List.mem_of_mem_drop hx)⟩, ?_⟩
        · rw [seg_bytesI, seg_bytesI, Nat.mul_one, Nat.mul_one, Nat.zero_add, List.drop_zero, List.take_take, Nat.min_self, List.take_of_length_le (by rw [hdl]; exact Nat.le_refl _)]
        have hfront := front_law (bs.drop at_)
        rw [hdl] at hfront
        obtain ⟨⟨r0, r1, r2, r3⟩, hgt⟩ : ∃ r, getS (bs.drop at_) = r := ⟨_, rfl⟩
        rw [hgt] at hlaw hfront ⊢
        dsimp only at hlaw hfront
        refine ⟨fun h2 => ?_, fun h2 => ?_⟩
        · have he : r3 ≠ 0 := by simpa using h2
          rw [if_neg he] at hlaw
          rw [hlaw] at hK2
          exact fin_k tt_ok (rs := rs_r04_All) rfl rfl (hK2 (by simpa using he)) [0] rfl rfl rfl rfl rfl rfl
        · have he : r3 = 0 := by simpa using h2
          subst he
          rw [if_pos rfl] at hlaw
          obtain ⟨m, hm1, hm2, hm3, _⟩ := hfront rfl
          subst hm1
          refine ⟨⟨rfl, insV_len L, Nat.le_refl _, fun u hu => ?_, by simp only [maxLen]; omega, by omega⟩, fun c1 hc1 hc2 => ?_⟩
          · rcases List.mem_cons.1 (List.mem_of_mem_drop (List.mem_of_mem_take hu)) with rfl | hu
            · rfl
            · rw [List.mem_singleton.1 hu]; rfl
          refine e_again (at_ + m, L ++ [(r0, r1)], c1, f) ⟨by simp only; omega, by simp only [List.length_append, List.length_cons, List.length_nil]; omega, by simpa using hc1, by simp only; omega, ?_⟩ (by simp only; omega) (into [0, 5] ⟨⟨_, rfl, rfl⟩, ⟨_, rfl, ?_⟩, ⟨_, rfl, fvi ?_⟩, trivial⟩ ⟨_, rfl, ?_⟩ rfl rfl rfl rfl)
          · rw [hlaw, List.drop_drop]
            simp only [Int.toNat_natCast]
          · rw [show L.length + 1 = (L ++ [(r0, r1)]).length by simp]; rfl
          · show IntKind.i64.wrap ((at_ : Int) + (m : Int)) = _
            rw [wrap64 (by omega) (by omega)]; simp
          · have e2 : insV (L ++ [(r0, r1)]) = insV L ++ seg (List.map SV.cv [SV.int IntKind.u8 r0, SV.int IntKind.i32 r1]) 0 (1 * 2) := by rw [insV_append]; rfl
            dsimp only
            rw [e2]
            rfl
      · have hz : at_ = bs.length := by have := of_decide_eq_false h1; omega
        subst hz
        have hfin : allA f (bs.drop bs.length) L = (L, 0) := by
          cases f with
          | zero => rfl
          | succ f => rw [allA, if_pos (by simp)]
        rw [hfin] at hlaw
        rw [hlaw] at hK1
        exact fin_k tt_ok (rs := rs_r04_All) rfl rfl (hK1 rfl c hLc) [0, 1] rfl rfl rfl rfl rfl rfl
/-- Two rows of instructions: the same. -/
theorem same_c (A B : List (Int × Int)) (ca cb : Nat) (hn : A.length ≤ 1000000000) : Con Try.prog f_r04_Same [.s (.sl 0 0 A.length ca), .s (.sl 1 0 B.length cb)] [.view (insV A), .view (insV B)] (.ret (.t (.s (.bool (decide (A = B))))) [.view (insV A), .view (insV B)]) := by
  intro K hK
  refine enter fn_r04_Same rfl nt_r04_Same rfl rfl (fun φ w0 β0 F => ?_)
  refine c_run tt_ok (ct := []) trivial k_r04_Same [] 60 (by kernel_rfl) ?_
  refine ⟨fun h => ?_, fun h => ?_⟩
  · have hne : A.length ≠ B.length := by intro e; rw [e] at h; simp at h
    rw [show decide (A = B) = false by simp; intro e; exact hne (by rw [e])] at hK
    exact fin_k tt_ok (rs := rs_r04_Same) rfl rfl hK [0, 1] rfl rfl rfl rfl rfl rfl
  · have hln : A.length = B.length := by
      have : ((A.length : Int) != (B.length : Int)) = false := h
      have h2 := by simpa using this
      exact Int.ofNat.inj h2
    show WpC _ _ _ _ _
    refine c_loop (α := Nat) (fun i => i ≤ A.length ∧ A.take i = B.take i) (fun i => A.length - i)
      (fun i => [(0, .t (.s (.sl 0 0 A.length ca)), none), (1, .t (.s (.sl 1 0 B.length cb)), none), (5, .t (.s (.int .i64 (i : Int))), none)])
      (fun _ => [.view (insV A), .view (insV B)]) 0 ⟨Nat.zero_le _, rfl⟩ ?_ ?_
    · exact into [0, 1] ⟨⟨_, rfl, rfl⟩, ⟨_, rfl, rfl⟩, ⟨_, rfl, rfl⟩, trivial⟩ ⟨_, rfl, rfl⟩ rfl rfl rfl rfl
    · intro i ⟨hi, he⟩
      dsimp only
      refine c_run' tt_ok (ct := []) trivial k_r04_Same [] 60 (by kernel_rfl) (by kernel_rfl) ?_
      refine ⟨fun h1 => ?_, fun h1 => ?_⟩
      · have hlt : i < A.length := by have := of_decide_eq_true h1; omega
        have hlt2 : i < B.length := by omega
        obtain ⟨p, hp⟩ : ∃ p, A[i]? = some p := ⟨_, List.getElem?_eq_getElem hlt⟩
        obtain ⟨q, hq⟩ : ∃ q, B[i]? = some q := ⟨_, List.getElem?_eq_getElem hlt2⟩
        have hr1 := row_at hp
        have hr2 := row_at hq
        obtain ⟨f, v⟩ := p
        obtain ⟨g, u⟩ := q
        dsimp only at hr1 hr2
        refine ⟨i, ⟨rfl, hlt, by show 0 + (i + 1) * 2 ≤ _; rw [insV_len]; omega⟩, [.int .u8 f, .int .i32 v], rfl, ⟨Nat.le_refl 2, by rw [show 0 + i * (1 + 1) = i * 2 by omega]; exact hr1⟩, ?_⟩
        refine ⟨i, ⟨rfl, hlt2, by show 0 + (i + 1) * 2 ≤ _; rw [insV_len]; omega⟩, [.int .u8 g, .int .i32 u], rfl, ⟨Nat.le_refl 2, by rw [show 0 + i * (1 + 1) = i * 2 by omega]; exact hr2⟩, ?_⟩
        refine ⟨fun h2 => ?_, fun h2 => ?_⟩
        · have hne : ¬ A = B := by
            intro e
            rw [e, hq] at hp
            cases hp
            simp at h2
          rw [show decide (A = B) = false by simpa using hne] at hK
          exact fin_k tt_ok (rs := rs_r04_Same) rfl rfl hK [0, 1] rfl rfl rfl rfl rfl rfl
        · have heq : f = g ∧ v = u := by simpa using h2
          obtain ⟨rfl, rfl⟩ := heq
          refine e_again (i + 1) ⟨by omega, ?_⟩ (by omega) (into [0, 1] ⟨⟨_, rfl, rfl⟩, ⟨_, rfl, rfl⟩, ⟨_, rfl, fvi (wrapSucc (by omega))⟩, trivial⟩ ⟨_, rfl, rfl⟩ rfl rfl rfl rfl)
          rw [List.take_add_one, List.take_add_one, he, hp, hq]
      · have hge : i = A.length := by have := of_decide_eq_false h1; omega
        subst hge
        rw [List.take_length, hln, List.take_length] at he
        rw [he, show decide (B = B) = true by simp] at hK
        rw [he]
        exact fin_k tt_ok (rs := rs_r04_Same) rfl rfl hK [0, 1] rfl rfl rfl rfl rfl rfl
end Go.Proofs

namespace Go.Proofs
open Go Go.Sx
set_option maxRecDepth 10000
noncomputable abbrev eJoin : Ent := .st (conS (P := Try.prog) (f := f_code_Join) fun cargs σ0 => match cargs, σ0 with
  | [.s (.sl 0 0 n cap)], [.view xs] => some ⟨.ex (List (Int × Int)) fun L => .ask (n = L.length ∧ xs = insV L ∧ GoodL L ∧ L.length ≤ cap ∧ L.length ≤ 40000)
      (.br (joinE L == 0) (.all Nat (fun c => (joinB L).length ≤ c) fun c => .ret (.tup [.s (.sl 1 0 (joinB L).length c), .s (.int .i64 0)]) [.view (insV L), .own 5 1 c (bytesI (joinB L))])
      (.ret (.tup [.s (.raw (.slice none 0 0)), .s (.int .i64 (joinE L))]) [.view (insV L)])), fun K h => by
      obtain ⟨L, ⟨e1, e2, h1, h2, h3⟩, h⟩ := h
      subst e1; subst e2
      exact Join_c L cap h1 h2 h3 K h⟩
  | _, _ => none)
noncomputable abbrev eRJoin : Ent := .st (conS (P := Try.prog) (f := f_r04_Join) fun cargs σ0 => match cargs, σ0 with
  | [.s (.sl 0 0 n cap)], [.view xs] => some ⟨.ex (List (Int × Int)) fun L => .ask (n = L.length ∧ xs = insV L ∧ GoodR L ∧ L.length ≤ cap ∧ L.length ≤ 40000)
      (.br (joinE L == 0) (.all Nat (fun c => (joinB L).length ≤ c) fun c => .ret (.tup [.s (.sl 1 0 (joinB L).length c), .s (.int .i64 0)]) [.view (insV L), .own 5 1 c (bytesI (joinB L))])
      (.ret (.tup [.s (.raw (.slice none 0 0)), .s (.int .i64 (joinE L))]) [.view (insV L)])), fun K h => by
      obtain ⟨L, ⟨e1, e2, h1, h2, h3⟩, h⟩ := h
      subst e1; subst e2
      exact RJoin_c L cap h1 h2 h3 K h⟩
  | _, _ => none)
noncomputable abbrev eAll : Ent := .st (conS (P := Try.prog) (f := f_code_All) fun cargs σ0 => match cargs, σ0 with
  | [.s (.sl 0 0 n cap)], [.view xs] => some ⟨.ex (List Int) fun bs => .ask (n = bs.length ∧ xs = bytesI bs ∧ bs.length ≤ cap)
      (.br ((allS bs).2 == 0) (.all Nat (fun c => (allS bs).1.length ≤ c) fun c => .ret (.tup [.s (.sl 1 0 (allS bs).1.length c), .s (.int .i64 0)]) [.view (bytesI bs), .own 26 2 c (insV (allS bs).1)])
      (.ret (.tup [.s (.raw (.slice none 0 0)), .s (.int .i64 (allS bs).2)]) [.view (bytesI bs)])), fun K h => by
      obtain ⟨bs, ⟨e1, e2, h1⟩, h⟩ := h
      subst e1; subst e2
      exact All_c bs cap h1 K h⟩
  | _, _ => none)
noncomputable abbrev eRAll : Ent := .st (conS (P := Try.prog) (f := f_r04_All) fun cargs σ0 => match cargs, σ0 with
  | [.s (.sl 0 0 n cap)], [.view xs] => some ⟨.ex (List Int) fun bs => .ask (n = bs.length ∧ xs = bytesI bs ∧ GoodB bs ∧ bs.length ≤ cap)
      (.br ((allS bs).2 == 0) (.all Nat (fun c => (allS bs).1.length ≤ c) fun c => .ret (.tup [.s (.sl 1 0 (allS bs).1.length c), .s (.int .i64 0)]) [.view (bytesI bs), .own 26 2 c (insV (allS bs).1)])
      (.ret (.tup [.s (.raw (.slice none 0 0)), .s (.int .i64 (allS bs).2)]) [.view (bytesI bs)])), fun K h => by
      obtain ⟨bs, ⟨e1, e2, h0, h1⟩, h⟩ := h
      subst e1; subst e2
      exact RAll_c bs cap h0 h1 K h⟩
  | _, _ => none)
def rdSame : List RA → (Prop → Prop) → (FV → Prop) → Option Prop
  | [.row xs n _, .row ys n' _], ask, k => some (∃ p : List (Int × Int) × List (Int × Int), ask (xs = insV p.1 ∧ n = p.1.length ∧ ys = insV p.2 ∧ n' = p.2.length ∧ p.1.length ≤ 1000000000) ∧ k (.t (.s (.bool (decide (p.1 = p.2))))))
  | _, _, _ => none
theorem re_same : REok Try.prog f_r04_Same rdSame := ⟨cal_r04_Same, fun args ask k R h hR => by
  unfold rdSame at h
  split at h
  · cases h
    obtain ⟨⟨A, B⟩, h1, h2⟩ := hR
    refine ⟨_, h2, rfl, fun hp => ?_⟩
    obtain ⟨e1, e2, e3, e4, h3⟩ := hp _ h1
    dsimp only at e1 e2 e3 e4 h3
    subst e1; subst e2; subst e3; subst e4
    have := same_c A B
    exact ⟨fun β φ w hs => (((same_c A B _ _ h3) (fun v σ => v = .t (.s (.bool (decide (A = B)))) ∧ σ = [.view (insV A), .view (insV B)]) ⟨rfl, rfl⟩).h β φ w hs).mono fun e w' ⟨x, β', ⟨q1, q2⟩, hr⟩ => by
      obtain ⟨v, σ⟩ := x
      dsimp only at q1 q2
      subst q1; subst q2
      exact ⟨(), β', trivial, hr⟩⟩
  · cases h⟩
noncomputable abbrev ctLi : CT := [(f_code_Join, eJoin), (f_r04_Join, eRJoin), (f_code_All, eAll), (f_r04_All, eRAll), (f_r04_Same, .rd rdSame), (f_l04_works, .pure sp13)]
theorem ctLi_ok : CTok Try.prog ctLi := ⟨con_ok cal_code_Join _, con_ok cal_r04_Join _, con_ok cal_code_All _, con_ok cal_r04_All _, re_same, ce13, trivial⟩
theorem allA_len : ∀ (f : Nat) (bs : List Int) (L : List (Int × Int)), (allA f bs L).1.length ≤ L.length + f
  | 0, _, L => Nat.le_refl _
  | f + 1, bs, L => by
    unfold allA
    split
    · exact Nat.le_add_right _ _
    · split
      · have := allA_len f (bs.drop (getS bs).2.2.1.toNat) (L ++ [((getS bs).1, (getS bs).2.1)])
        simp only [List.length_append, List.length_cons, List.length_nil] at this
        omega
      · exact Nat.zero_le _
theorem allS_len (bs : List Int) : (allS bs).1.length ≤ bs.length := by
  unfold allS
  split
  · exact Nat.zero_le _
  · have := allA_len bs.length bs []
    simpa using this
theorem told_tr {b : Bool} {β : Nat → Bd} (h : b = true) : (FV.t (.s (.bool true))).den β = (FV.t (.s (.bool b))).den β := by rw [h]
theorem List.take_min_len {α : Type} (l : List α) (n : Nat) : l.take (min n l.length) = l.take n := by
  by_cases h : n ≤ l.length
  · rw [Nat.min_eq_left h]
  · rw [Nat.min_eq_right (by omega), List.take_length, List.take_of_length_le (by omega)]
theorem insV_take : ∀ (n : Nat) (L : List (Int × Int)), (insV L).take (n * 2) = insV (L.take n)
  | 0, L => by simp [insV]
  | n + 1, [] => by simp [insV]
  | n + 1, (a, b) :: L => by
    have := insV_take n L
    rw [show (n + 1) * 2 = n * 2 + 1 + 1 by omega]
    simpa [insV] using this
theorem seg_insV (L : List (Int × Int)) (n : Nat) : seg (insV L) (0 + 0 * 2) (n * 2) = insV (L.take n) := by
  rw [← insV_take]; rfl
theorem CodeLists_c (L : List (Int × Int)) (cl : Nat) (bs : List Int) (cb : Nat) (hL : GoodR L) (hB : GoodB bs) (hcl : L.length ≤ cl) (hcb : bs.length ≤ cb) (_hm : cb ≤ maxLen) (_hml : cl ≤ maxLen) :
    Con Try.prog f_l04_CodeLists [.s (.sl 0 0 L.length cl), .s (.sl 1 0 bs.length cb)] [.view (insV L), .view (bytesI bs)] (.ret (.t (.s (.bool true))) [.view (insV L), .view (bytesI bs)]) := by
  intro K hK
  refine enter fn_l04_CodeLists rfl nt_l04_CodeLists rfl rfl (fun φ w0 β0 F => ?_)
  refine c_run tt_ok ctLi_ok k_l04_CodeLists [] 90 (by kernel_rfl) ?_
  have e1 : (if (100 : Int) < (L.length : Int) then (100 : Int) else (L.length : Int)) = ((min 100 L.length : Nat) : Int) := by split <;> omega
  have e2 : (if (300 : Int) < (bs.length : Int) then (300 : Int) else (bs.length : Int)) = ((min 300 bs.length : Nat) : Int) := by split <;> omega
  have hs1 : seg (insV L) (0 + 0 * 2) ((min 100 L.length - 0) * 2) = insV (L.take 100) := by
    rw [seg_insV, Nat.sub_zero, List.take_min_len]
  have hs2 : seg (bytesI bs) (0 + 0 * 1) ((min 300 bs.length - 0) * 1) = bytesI (bs.take 300) := by
    rw [seg_bytesI, Nat.mul_one, Nat.zero_mul, List.drop_zero, Nat.sub_zero, List.take_min_len]
  have hl1 : (L.take 100).length = min 100 L.length := List.length_take ..
  have hl2 : (bs.take 300).length = min 300 bs.length := List.length_take ..
  refine ⟨0, min 100 L.length, ⟨_, _, rfl, rfl, rfl, e1⟩, ⟨by omega, by omega⟩, ?_⟩
  refine ⟨0, min 300 bs.length, ⟨_, _, rfl, rfl, rfl, e2⟩, ⟨by omega, by omega⟩, ?_⟩
  refine ⟨⟨rfl, rfl, by rw [hs1, insV_len, hl1]; omega, fun u hu => ?_, by simp only [maxLen]; omega, by omega⟩, fun c1 hc1 hc1' => ?_⟩
  · rw [hs1] at hu
    exact insV_one _ u (List.mem_of_mem_drop (List.mem_of_mem_take hu))
  refine ⟨⟨rfl, rfl, by rw [hs2, bytesI_length, hl2]; omega, fun u hu => ?_, by simp only [maxLen]; omega, by omega⟩, fun c2 hc2 hc2' => ?_⟩
  · rw [hs2] at hu
    exact bytesI_one _ u (List.mem_of_mem_drop (List.mem_of_mem_take hu))
  have hs3 : List.map SV.cv [] ++ seg (seg (insV L) (0 + 0 * 2) ((min 100 L.length - 0) * 2)) 0 ((min 100 L.length - 0) * 2) = insV (L.take 100) := by
    rw [hs1, List.map_nil, List.nil_append, Nat.sub_zero, ← hl1, ← insV_len]
    simp [seg]
  have hs4 : List.map SV.cv [] ++ seg (seg (bytesI bs) (0 + 0 * 1) ((min 300 bs.length - 0) * 1)) 0 ((min 300 bs.length - 0) * 1) = bytesI (bs.take 300) := by
    rw [hs2, List.map_nil, List.nil_append, Nat.sub_zero, ← hl2, seg_bytesI, List.drop_zero, Nat.mul_one, List.take_length]
  refine l_freeze 5 (xs := insV (L.take 100)) rfl (congrArg some hs3) ?_
  refine l_freeze 7 (xs := bytesI (bs.take 300)) rfl (congrArg some hs4) ?_
  refine l_run (ct := ctLi) tt_ok ctLi_ok k_l04_CodeLists [100060, 100065, 100070, 100075, 100082] 90 rfl (by kernel_rfl) ?_
  refine ⟨L.take 100, ⟨by rw [hl1]; omega, rfl, ⟨?_, by omega, by omega⟩⟩, ?_⟩
  · exact fun p hp => (hL p (List.mem_of_mem_take hp)).2
  have ha1 : (L.take 100).length = 0 + (min 100 L.length - 0) := by omega
  have hs6 : ∀ k, k = min 300 bs.length → seg (bytesI (bs.take 300)) 0 k = bytesI (bs.take 300) := fun k hk => by
    rw [hk, ← hl2, seg_bytesI, List.drop_zero, List.take_length]
  have hs5 : ∀ k, k = min 100 L.length → seg (insV (L.take 100)) 0 (k * 2) = insV (L.take 100) := fun k hk => by
    rw [hk, ← hl1, ← insV_len]; simp [seg]
  have hsm : (seg (insV (List.take 100 L)) 0 ((0 + (min 100 L.length - 0)) * 2) = insV (L.take 100) ∧ 0 + (min 100 L.length - 0) = (L.take 100).length ∧ seg (insV (List.take 100 L)) 0 ((min 100 L.length - 0) * 2) = insV (L.take 100) ∧ min 100 L.length - 0 = (L.take 100).length ∧ (L.take 100).length ≤ 1000000000) :=
    ⟨hs5 _ (by omega), by omega, hs5 _ (by omega), by omega, by omega⟩
  have hs7 : seg (bytesI (joinB (L.take 100))) 0 (joinB (L.take 100)).length = bytesI (joinB (L.take 100)) := by
    rw [seg_bytesI, List.drop_zero, List.take_length]
  have hs8 : seg (insV (allS (bs.take 300)).1) 0 ((allS (bs.take 300)).1.length * 2) = insV (allS (bs.take 300)).1 := by
    rw [← insV_len]; simp [seg]
  have hLR : GoodR (L.take 100) := fun p hp => hL p (List.mem_of_mem_take hp)
  have hBB : GoodB (bs.take 300) := fun p hp => hB p (List.mem_of_mem_take hp)
  rcases Bool.eq_false_or_eq_true (joinE (L.take 100) == 0) with hj' | hj'
  · refine ⟨fun _ j1 hj1 => ?_, fun h => absurd (hj'.symm.trans h) (by decide)⟩
    rcases Bool.eq_false_or_eq_true ((allS (bs.take 300)).2 == 0) with ha' | ha'
    · refine ⟨L.take 100, ⟨by rw [hl1]; omega, hs1, ⟨hLR, by omega, by omega⟩⟩, ?_⟩
      refine ⟨fun _ j2 hj2 => ?_, fun h => absurd (hj'.symm.trans h) (by decide)⟩
      refine ⟨bs.take 300, ⟨by rw [hl2]; omega, rfl, by omega⟩, ?_⟩
      refine ⟨fun _ r1 hr1 => ?_, fun h => absurd (ha'.symm.trans h) (by decide)⟩
      refine ⟨bs.take 300, ⟨by rw [hl2]; omega, hs2, hBB, by omega⟩, ?_⟩
      refine ⟨fun _ r2 hr2 => ?_, fun h => absurd (ha'.symm.trans h) (by decide)⟩
      refine ⟨joinB (L.take 100), ⟨hs7, rfl⟩, ?_⟩
      refine ⟨joinB (L.take 100), ⟨hs7, rfl⟩, ?_⟩
      refine ⟨.t (.s (.bool true)), fun β => told_tr (by simp), rfl, ?_⟩
      refine ⟨fun _ => ?_, fun h => absurd h (by decide)⟩
      refine ⟨((allS (bs.take 300)).1, (allS (bs.take 300)).1), ⟨hs8, rfl, hs8, rfl, by have := allS_len (bs.take 300); simp only; omega⟩, ?_⟩
      refine ⟨.t (.s (.bool true)), fun β => told_tr (by simp), rfl, ?_⟩
      refine ⟨.t (.s (.bool true)), fun β => told_tr (by simp), rfl, ?_⟩
      refine ⟨fun _ => ?_, fun h => absurd h (by decide)⟩
      refine ⟨(L.take 100, L.take 100), hsm, ?_⟩
      refine ⟨.t (.s (.bool true)), fun β => told_tr (by simp), rfl, ?_⟩
      refine ⟨bs.take 300, fun _ => ⟨hs6 _ (by omega), by omega⟩, ?_⟩
      refine ⟨bs.take 300, fun _ => ⟨hs6 _ (by omega), by omega⟩, ?_⟩
      refine ⟨.t (.s (.bool true)), fun β => told_tr (by simp), rfl, ?_⟩
      refine ⟨fun _ => trivial, ?_⟩
      exact fin_k tt_ok (rs := rs_l04_CodeLists) rfl rfl hK [0, 1] rfl rfl rfl rfl rfl rfl
    · refine ⟨L.take 100, ⟨by rw [hl1]; omega, hs1, ⟨hLR, by omega, by omega⟩⟩, ?_⟩
      refine ⟨fun _ j2 hj2 => ?_, fun h => absurd (hj'.symm.trans h) (by decide)⟩
      refine ⟨bs.take 300, ⟨by rw [hl2]; omega, rfl, by omega⟩, ?_⟩
      refine ⟨fun h => absurd (ha'.symm.trans h) (by decide), fun _ => ?_⟩
      refine ⟨bs.take 300, ⟨by rw [hl2]; omega, hs2, hBB, by omega⟩, ?_⟩
      refine ⟨fun h => absurd (ha'.symm.trans h) (by decide), fun _ => ?_⟩
      refine ⟨joinB (L.take 100), ⟨hs7, rfl⟩, ?_⟩
      refine ⟨joinB (L.take 100), ⟨hs7, rfl⟩, ?_⟩
      refine ⟨.t (.s (.bool true)), fun β => told_tr (by simp), rfl, ?_⟩
      refine ⟨fun _ => ?_, fun h => absurd h (by decide)⟩
      refine WpL.into (nilSlot 62 26 2 rfl) ?_
      refine WpL.into (nilSlot 63 26 2 rfl) ?_
      refine l_run (ct := ctLi) tt_ok ctLi_ok k_l04_CodeLists [100065, 100070, 100075, 100082] 90 rfl (by kernel_rfl) ?_
      refine ⟨fun _ => ?_, fun h => absurd h (by decide)⟩
      refine ⟨([], []), ⟨rfl, rfl, rfl, rfl, by decide⟩, ?_⟩
      refine ⟨.t (.s (.bool true)), fun β => told_tr (by simp), rfl, ?_⟩
      refine ⟨.t (.s (.bool true)), fun β => told_tr (by simp), rfl, ?_⟩
      refine ⟨fun _ => ?_, fun h => absurd h (by decide)⟩
      refine ⟨(L.take 100, L.take 100), hsm, ?_⟩
      refine ⟨.t (.s (.bool true)), fun β => told_tr (by simp), rfl, ?_⟩
      refine ⟨bs.take 300, fun _ => ⟨hs6 _ (by omega), by omega⟩, ?_⟩
      refine ⟨bs.take 300, fun _ => ⟨hs6 _ (by omega), by omega⟩, ?_⟩
      refine ⟨.t (.s (.bool true)), fun β => told_tr (by simp), rfl, ?_⟩
      refine ⟨fun _ => trivial, ?_⟩
      exact fin_k tt_ok (rs := rs_l04_CodeLists) rfl rfl hK [0, 1] rfl rfl rfl rfl rfl rfl
  · refine ⟨fun h => absurd (hj'.symm.trans h) (by decide), fun _ => ?_⟩
    rcases Bool.eq_false_or_eq_true ((allS (bs.take 300)).2 == 0) with ha' | ha'
    · refine ⟨L.take 100, ⟨by rw [hl1]; omega, hs1, ⟨hLR, by omega, by omega⟩⟩, ?_⟩
      refine ⟨fun h => absurd (hj'.symm.trans h) (by decide), fun _ => ?_⟩
      refine ⟨bs.take 300, ⟨by rw [hl2]; omega, rfl, by omega⟩, ?_⟩
      refine ⟨fun _ r1 hr1 => ?_, fun h => absurd (ha'.symm.trans h) (by decide)⟩
      refine ⟨bs.take 300, ⟨by rw [hl2]; omega, hs2, hBB, by omega⟩, ?_⟩
      refine ⟨fun _ r2 hr2 => ?_, fun h => absurd (ha'.symm.trans h) (by decide)⟩
      refine ⟨.t (.s (.bool true)), fun β => told_tr (by simp), rfl, ?_⟩
      refine ⟨fun _ => ?_, fun h => absurd h (by decide)⟩
      refine ⟨((allS (bs.take 300)).1, (allS (bs.take 300)).1), ⟨hs8, rfl, hs8, rfl, by have := allS_len (bs.take 300); simp only; omega⟩, ?_⟩
      refine ⟨.t (.s (.bool true)), fun β => told_tr (by simp), rfl, ?_⟩
      refine ⟨.t (.s (.bool true)), fun β => told_tr (by simp), rfl, ?_⟩
      refine ⟨fun _ => ?_, fun h => absurd h (by decide)⟩
      refine ⟨(L.take 100, L.take 100), hsm, ?_⟩
      refine ⟨.t (.s (.bool true)), fun β => told_tr (by simp), rfl, ?_⟩
      refine ⟨bs.take 300, fun _ => ⟨hs6 _ (by omega), by omega⟩, ?_⟩
      refine ⟨bs.take 300, fun _ => ⟨hs6 _ (by omega), by omega⟩, ?_⟩
      refine ⟨.t (.s (.bool true)), fun β => told_tr (by simp), rfl, ?_⟩
      refine ⟨fun _ => trivial, ?_⟩
      exact fin_k tt_ok (rs := rs_l04_CodeLists) rfl rfl hK [0, 1] rfl rfl rfl rfl rfl rfl
    · refine ⟨L.take 100, ⟨by rw [hl1]; omega, hs1, ⟨hLR, by omega, by omega⟩⟩, ?_⟩
      refine ⟨fun h => absurd (hj'.symm.trans h) (by decide), fun _ => ?_⟩
      refine ⟨bs.take 300, ⟨by rw [hl2]; omega, rfl, by omega⟩, ?_⟩
      refine ⟨fun h => absurd (ha'.symm.trans h) (by decide), fun _ => ?_⟩
      refine ⟨bs.take 300, ⟨by rw [hl2]; omega, hs2, hBB, by omega⟩, ?_⟩
      refine ⟨fun h => absurd (ha'.symm.trans h) (by decide), fun _ => ?_⟩
      refine ⟨.t (.s (.bool true)), fun β => told_tr (by simp), rfl, ?_⟩
      refine ⟨fun _ => ?_, fun h => absurd h (by decide)⟩
      refine WpL.into (nilSlot 62 26 2 rfl) ?_
      refine WpL.into (nilSlot 63 26 2 rfl) ?_
      refine l_run (ct := ctLi) tt_ok ctLi_ok k_l04_CodeLists [100065, 100070, 100075, 100082] 90 rfl (by kernel_rfl) ?_
      refine ⟨fun _ => ?_, fun h => absurd h (by decide)⟩
      refine ⟨([], []), ⟨rfl, rfl, rfl, rfl, by decide⟩, ?_⟩
      refine ⟨.t (.s (.bool true)), fun β => told_tr (by simp), rfl, ?_⟩
      refine ⟨.t (.s (.bool true)), fun β => told_tr (by simp), rfl, ?_⟩
      refine ⟨fun _ => ?_, fun h => absurd h (by decide)⟩
      refine ⟨(L.take 100, L.take 100), hsm, ?_⟩
      refine ⟨.t (.s (.bool true)), fun β => told_tr (by simp), rfl, ?_⟩
      refine ⟨bs.take 300, fun _ => ⟨hs6 _ (by omega), by omega⟩, ?_⟩
      refine ⟨bs.take 300, fun _ => ⟨hs6 _ (by omega), by omega⟩, ?_⟩
      refine ⟨.t (.s (.bool true)), fun β => told_tr (by simp), rfl, ?_⟩
      refine ⟨fun _ => trivial, ?_⟩
      exact fin_k tt_ok (rs := rs_l04_CodeLists) rfl rfl hK [0, 1] rfl rfl rfl rfl rfl rfl
end Go.Proofs

namespace Go.Proofs
open Go Go.Sx
set_option maxRecDepth 10000
def prVS (p : Int × Int) : List Value := [.int .u8 p.1, .int .i32 p.2]
def prGood (p : Int × Int) : Prop := (Lit.int .u8 p.1).wf = true ∧ (Lit.int .i32 p.2).wf = true
theorem pr_conv (q : List Value) (h : KOK [.int .u8, .int .i32] q) : ∃ e, prGood e ∧ q = prVS e := by
  cases q with
  | nil => cases h
  | cons a q =>
    cases q with
    | nil => cases h.2
    | cons b q =>
      cases q with
      | cons c q => cases h.2.2
      | nil =>
        obtain ⟨m, h1, h2⟩ := h.1
        obtain ⟨n, h3, h4⟩ := h.2.1
        exact ⟨(m, n), ⟨h2, h4⟩, by rw [h1, h3]; rfl⟩
theorem pr_flat : ∀ l : List (Int × Int), (l.map prVS).flatten = insV l
  | [] => rfl
  | p :: t => by rw [List.map_cons, List.flatten_cons, pr_flat t]; rfl
theorem goodR_of {l : List (Int × Int)} (g : ∀ e ∈ l, prGood e) : GoodR l := fun p hp => by
  obtain ⟨h1, h2⟩ := g p hp
  refine ⟨?_, i32_fit h2⟩
  simp [Lit.wf, IntKind.min, IntKind.max, IntKind.signed, IntKind.bits] at h1
  omega
theorem CodeLists_d (L : List (Int × Int)) (cl : Nat) (bs : List Int) (cb : Nat) (hL : ∀ e ∈ L, prGood e) (hB : GoodB bs) (hcl : L.length ≤ cl) (hcb : bs.length ≤ cb) (hm : cb ≤ maxLen) (hml : cl ≤ maxLen) :
    Con Try.prog f_l04_CodeLists [.s (.sl 0 0 L.length cl), .s (.sl 1 0 bs.length cb)] [.view (L.map prVS).flatten, .view (bytesI bs)] (.ret (.t (.s (.bool true))) [.view (L.map prVS).flatten, .view (bytesI bs)]) := by
  rw [pr_flat]
  exact CodeLists_c L cl bs cb (goodR_of hL) hB hcl hcb hm hml
end Go.Proofs
