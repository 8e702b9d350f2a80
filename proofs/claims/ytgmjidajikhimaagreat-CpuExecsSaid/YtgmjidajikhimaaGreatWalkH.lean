/- What an instruction leaves of a memory (printed by gen28w.py). -/
import Derived.Test.YtgmjidajikhimaaGreatWalkF
import Derived.Test.YtgmjidajikhimaaGreatWalkG
import Derived.Test.YtgmjidajikhimaaGreatWalkA
import Derived.Test.YtgmjidajikhimaaGreatSxC

namespace Go.Proofs
open Go Go.Sx
set_option maxRecDepth 10000
/-- In how many of the first places two rows differ. -/
def cnt (l l' : List Int) : Nat → Nat
  | 0 => 0
  | n + 1 => cnt l l' n + (if l'.getD n 0 = l.getD n 0 then 0 else 1)
theorem cnt_self (l : List Int) : ∀ n, cnt l l n = 0
  | 0 => rfl
  | n + 1 => by show cnt l l n + _ = 0; rw [cnt_self l n, if_pos rfl]
theorem cnt_tri (a b c : List Int) : ∀ n, cnt a c n ≤ cnt a b n + cnt b c n
  | 0 => Nat.le_refl _
  | n + 1 => by
    have := cnt_tri a b c n
    show cnt a c n + _ ≤ (cnt a b n + _) + (cnt b c n + _)
    by_cases h1 : b.getD n 0 = a.getD n 0
    · rw [if_pos h1, h1]
      by_cases h2 : c.getD n 0 = a.getD n 0
      · rw [if_pos h2]; omega
      · rw [if_neg h2]; omega
    · rw [if_neg h1]; split <;> omega
theorem cnt_gap {l l' : List Int} {i c : Nat} (h : ∀ j, (j < i ∨ i + c ≤ j) → l'.getD j 0 = l.getD j 0) : ∀ n, cnt l l' n ≤ min n (i + c) - i
  | 0 => Nat.zero_le _
  | n + 1 => by
    have := cnt_gap h n
    show cnt l l' n + _ ≤ _
    by_cases h1 : n < i ∨ i + c ≤ n
    · rw [if_pos (h n h1)]; omega
    · split <;> omega
theorem cnt_set (m : Ram) (a v : Int) (n : Nat) : cnt m.l (m.set a v).l n ≤ 4 := by
  cases h : wBad m a with
  | true => rw [set_bad h, cnt_self]; omega
  | false =>
    rw [set_ok h]
    have hb := wBad_nat h
    have := cnt_gap (l := m.l) (l' := setW m.l (ofAt (wAt a)).toNat v) (i := (ofAt (wAt a)).toNat) (c := 4) (fun j hj => by
      unfold setW
      rw [stW_get hb 4 (by decide), if_neg (by omega)]) n
    omega
theorem cnt_setB (m : Ram) (a v : Int) (n : Nat) : cnt m.l (m.setB a v).l n ≤ 1 := by
  unfold Ram.setB
  cases h : spanBad m.l.length a 1 with
  | true => show cnt m.l m.l n ≤ 1; rw [cnt_self]; omega
  | false =>
    show cnt m.l (m.put (ofAt a).toNat [v]).l n ≤ 1
    unfold Ram.put
    split
    · rename_i hb
      have hi : (ofAt a).toNat < m.l.length := by have := hb.1; simp at this; omega
      have := cnt_gap (l := m.l) (l' := setL m.l (ofAt a).toNat [v]) (i := (ofAt a).toNat) (c := 1) (fun j hj => by
        rw [setL_get hi, if_neg (by omega)]) n
      show cnt m.l (setL m.l (ofAt a).toNat [v]) n ≤ 1
      omega
    · rw [cnt_self]; omega
def Mild (t : Bool) (m : Ram) (x : Mach) : Prop := (x.e ≠ 0 → x.m = m) ∧ (t = false → ∀ n, cnt m.l x.m.l n ≤ 16)
theorem mild_same {t : Bool} {m : Ram} {k : Core} {e : Int} : Mild t m ⟨k, e, m⟩ := ⟨fun _ => rfl, fun _ n => by show cnt m.l m.l n ≤ 16; rw [cnt_self]; omega⟩
theorem mild_set {t : Bool} {m : Ram} {k : Core} {a v : Int} : Mild t m ⟨k, eOr 0 (m.err a), m.set a v⟩ := by
  refine ⟨fun h => ?_, fun _ n => ?_⟩
  · show m.set a v = m
    refine set_bad ?_ v
    cases h1 : wBad m a with
    | true => rfl
    | false => exact absurd (show eOr 0 (m.err a) = 0 by unfold Ram.err; rw [h1]; rfl) h
  · have := cnt_set m a v n
    show cnt m.l (m.set a v).l n ≤ 16
    omega
theorem mild_setB {t : Bool} {m : Ram} {k : Core} {a v : Int} : Mild t m ⟨k, eOr 0 (m.errB a), m.setB a v⟩ := by
  refine ⟨fun h => ?_, fun _ n => ?_⟩
  · show m.setB a v = m
    unfold Ram.setB
    cases h1 : spanBad m.l.length a 1 with
    | true => rfl
    | false => exact absurd (show eOr 0 (m.errB a) = 0 by unfold Ram.errB; rw [h1]; rfl) h
  · have := cnt_setB m a v n
    show cnt m.l (m.setB a v).l n ≤ 16
    omega
theorem mild_move {m : Ram} {k : Core} : Mild true m (Mach.move ⟨k, 0, m⟩) := by
  refine ⟨fun h => ?_, fun h => absurd h (by decide)⟩
  show mvM m k.b k.c k.a = m
  have h' : mvE m k.b k.c k.a ≠ 0 := h
  unfold mvE at h'
  unfold mvM Ram.move
  cases h1 : k.a == 0 with
  | true => rfl
  | false =>
    cases h2 : mvBad m k.b k.c k.a with
    | true => rfl
    | false => rw [h1, h2] at h'; exact absurd rfl h'
theorem mild_lend {t : Bool} {m : Ram} {k : Core} : Mild t m (Mach.lend ⟨k, 0, m⟩) := by
  unfold Mach.lend
  dsimp only
  refine pick (P := Mild t m) (fun _ => mild_same) fun h => ?_
  have hE : lendE k 0 m = 0 := by simpa using h
  have hb : m.err k.b = 0 ∧ m.err (w4 k) = 0 := by
    unfold lendE eOr at hE
    cases h1 : m.err k.b == 0 with
    | true => have h1' := eq_of_beq h1; rw [h1'] at hE; exact ⟨h1', hE⟩
    | false => exfalso; simp [h1] at hE; rw [hE] at h1; exact absurd h1 (by decide)
  refine pick (P := Mild t m) (fun _ => ⟨fun h => ?_, fun _ n => ?_⟩) (fun _ => ⟨fun h => ?_, fun _ n => ?_⟩)
  · exfalso; apply h
    show eOr (eOr (lendE k 0 m) (m.err (w4 k))) ((m.set (w4 k) (lendC k m)).err k.b) = 0
    rw [set_err, hE, hb.1, hb.2]; rfl
  · have h1 := cnt_set m (w4 k) (lendC k m) n
    have h2 := cnt_set (m.set (w4 k) (lendC k m)) k.b (IntKind.i32.wrap (m.word k.b + 1)) n
    have := cnt_tri m.l (m.set (w4 k) (lendC k m)).l ((m.set (w4 k) (lendC k m)).set k.b (IntKind.i32.wrap (m.word k.b + 1))).l n
    show cnt m.l ((m.set (w4 k) (lendC k m)).set k.b (IntKind.i32.wrap (m.word k.b + 1))).l n ≤ 16
    omega
  · exfalso; apply h
    show eOr (lendE k 0 m) (m.err (w4 k)) = 0
    rw [hE, hb.2]; rfl
  · have h1 := cnt_set m (w4 k) (lendC k m) n
    show cnt m.l (m.set (w4 k) (lendC k m)).l n ≤ 16
    omega
theorem mild_call {t : Bool} {m : Ram} {k : Core} {n : Int} : Mild t m (Mach.call ⟨k, 0, m⟩ n) := by
  unfold Mach.call
  dsimp only
  refine pick (P := Mild t m) (fun _ => mild_same) fun h => ?_
  have hE : callE k.wptr 0 m = 0 := by simpa using h
  refine ⟨fun h => ?_, fun _ j => ?_⟩
  · exfalso; apply h
    show callF k (callE k.wptr 0 m) m = 0
    rw [hE, callF_eq]; exact hE
  · show cnt m.l (callM k m).l j ≤ 16
    unfold callM
    have h1 := cnt_set m (cA k.wptr 0) k.c j
    have h2 := cnt_set (m.set (cA k.wptr 0) k.c) (cA k.wptr 1) k.b j
    have h3 := cnt_set ((m.set (cA k.wptr 0) k.c).set (cA k.wptr 1) k.b) (cA k.wptr 2) k.a j
    have h4 := cnt_set (((m.set (cA k.wptr 0) k.c).set (cA k.wptr 1) k.b).set (cA k.wptr 2) k.a) (cA k.wptr 3) k.iptr j
    have t1 := cnt_tri m.l (m.set (cA k.wptr 0) k.c).l ((m.set (cA k.wptr 0) k.c).set (cA k.wptr 1) k.b).l j
    have t2 := cnt_tri m.l ((m.set (cA k.wptr 0) k.c).set (cA k.wptr 1) k.b).l (((m.set (cA k.wptr 0) k.c).set (cA k.wptr 1) k.b).set (cA k.wptr 2) k.a).l j
    have t3 := cnt_tri m.l (((m.set (cA k.wptr 0) k.c).set (cA k.wptr 1) k.b).set (cA k.wptr 2) k.a).l ((((m.set (cA k.wptr 0) k.c).set (cA k.wptr 1) k.b).set (cA k.wptr 2) k.a).set (cA k.wptr 3) k.iptr).l j
    omega
theorem mild_fn {t : Bool} {k : Core} {f n : Int} {m : Ram} : Mild t m (Mach.fn ⟨k, 0, m⟩ f n) := by
  unfold Mach.fn
  dsimp only
  refine pick (P := Mild t m) (fun _ => mild_same) fun _ => ?_
  refine pick (P := Mild t m) (fun _ => mild_same) fun _ => ?_
  refine pick (P := Mild t m) (fun _ => mild_same) fun _ => ?_
  refine pick (P := Mild t m) (fun _ => mild_same) fun _ => ?_
  refine pick (P := Mild t m) (fun _ => mild_same) fun _ => ?_
  refine pick (P := Mild t m) (fun _ => mild_same) fun _ => ?_
  refine pick (P := Mild t m) (fun _ => mild_same) fun _ => ?_
  refine pick (P := Mild t m) (fun _ => mild_call) fun _ => ?_
  refine pick (P := Mild t m) (fun _ => pick (P := Mild t m) (fun _ => mild_same) (fun _ => mild_same)) fun _ => ?_
  refine pick (P := Mild t m) (fun _ => mild_same) fun _ => ?_
  refine pick (P := Mild t m) (fun _ => mild_same) fun _ => ?_
  refine pick (P := Mild t m) (fun _ => mild_set) fun _ => ?_
  exact pick (P := Mild t m) (fun _ => mild_set) fun _ => mild_same
set_option maxHeartbeats 1000000 in
theorem mild_oth {o : Int} {k : Core} {m : Ram} : Mild (o == 74) m (othX o ⟨k, 0, m⟩) := by
  unfold othX
  dsimp only
  refine pick (P := Mild (o == 74) m) (fun e => mild_same) fun _ => ?_
  refine pick (P := Mild (o == 74) m) (fun e => mild_same) fun _ => ?_
  refine pick (P := Mild (o == 74) m) (fun e => mild_same) fun _ => ?_
  refine pick (P := Mild (o == 74) m) (fun e => mild_same) fun _ => ?_
  refine pick (P := Mild (o == 74) m) (fun e => mild_same) fun _ => ?_
  refine pick (P := Mild (o == 74) m) (fun e => mild_same) fun _ => ?_
  refine pick (P := Mild (o == 74) m) (fun e => mild_same) fun _ => ?_
  refine pick (P := Mild (o == 74) m) (fun e => mild_same) fun _ => ?_
  refine pick (P := Mild (o == 74) m) (fun e => mild_same) fun _ => ?_
  refine pick (P := Mild (o == 74) m) (fun e => mild_same) fun _ => ?_
  refine pick (P := Mild (o == 74) m) (fun e => mild_same) fun _ => ?_
  refine pick (P := Mild (o == 74) m) (fun e => mild_same) fun _ => ?_
  refine pick (P := Mild (o == 74) m) (fun e => mild_same) fun _ => ?_
  refine pick (P := Mild (o == 74) m) (fun e => mild_same) fun _ => ?_
  refine pick (P := Mild (o == 74) m) (fun e => mild_same) fun _ => ?_
  refine pick (P := Mild (o == 74) m) (fun e => mild_same) fun _ => ?_
  refine pick (P := Mild (o == 74) m) (fun e => mild_same) fun _ => ?_
  refine pick (P := Mild (o == 74) m) (fun e => mild_same) fun _ => ?_
  refine pick (P := Mild (o == 74) m) (fun e => mild_setB) fun _ => ?_
  refine pick (P := Mild (o == 74) m) (fun e => by rw [e]; exact mild_move) fun _ => ?_
  refine pick (P := Mild (o == 74) m) (fun e => mild_same) fun _ => ?_
  refine pick (P := Mild (o == 74) m) (fun e => mild_same) fun _ => ?_
  refine pick (P := Mild (o == 74) m) (fun e => mild_same) fun _ => ?_
  refine pick (P := Mild (o == 74) m) (fun e => mild_lend) fun _ => ?_
  refine pick (P := Mild (o == 74) m) (fun e => mild_same) fun _ => ?_
  refine pick (P := Mild (o == 74) m) (fun e => mild_same) fun _ => ?_
  refine pick (P := Mild (o == 74) m) (fun e => mild_same) fun _ => ?_
  refine pick (P := Mild (o == 74) m) (fun e => mild_same) fun _ => ?_
  refine pick (P := Mild (o == 74) m) (fun e => mild_same) fun _ => ?_
  exact mild_same
theorem mild_op {fn o : Int} {k : Core} {m : Ram} : Mild (fn == 15 && o == 74) m (opX ⟨k, 0, m⟩ fn o) := by
  unfold opX
  dsimp only
  refine pick (P := Mild _ m) (fun _ => mild_fn) fun g => ?_
  have g' : (fn == 15) = true := by simpa using g
  rw [g', Bool.true_and]
  exact pick (P := Mild (o == 74) m) (fun _ => mild_same) fun _ => mild_oth
/-- What an instruction leaves. -/
structure Kept (k : Core) (m : Ram) (fn o : Int) (r : Core × Int × Ram) : Prop where
  err : r.2.1 ≠ 0 → r.1 = .zero ∧ r.2.2 = m
  core : r.2.1 = 0 → Good (fn == 15 && o == 41) k r.1
  mem : (fn == 15 && o == 74) = false → ∀ n, cnt m.l r.2.2.l n ≤ 16
theorem kept_zero {k : Core} {m : Ram} {fn o e : Int} (h : e ≠ 0) : Kept k m fn o (.zero, e, m) := ⟨fun _ => ⟨rfl, rfl⟩, fun h' => absurd h' h, fun _ n => by show cnt m.l m.l n ≤ 16; rw [cnt_self]; omega⟩
theorem exP_kept {k : Core} {m : Ram} {fn o : Int} (h : k.ok) (ho : I32 o) : Kept k m fn o (exP k m fn o) := by
  unfold exP
  refine pick (P := Kept k m fn o) (fun _ => kept_zero (by decide)) fun _ => ?_
  refine pick (P := Kept k m fn o) (fun _ => kept_zero (by decide)) fun _ => ?_
  refine pick (P := Kept k m fn o) (fun _ => kept_zero (by decide)) fun _ => ?_
  have h1 := mild_op (fn := fn) (o := o) (k := k) (m := m)
  have h2 := op_good (fn := fn) (o := o) (e := 0) (k := k) (m := m) h ho
  unfold finR
  generalize opX ⟨k, 0, m⟩ fn o = x at h1 h2
  obtain ⟨k', e', m'⟩ := x
  dsimp only at h1 h2 ⊢
  cases he : e' != 0 with
  | true =>
    have : e' ≠ 0 := by simpa using he
    have hm := h1.1 this
    dsimp only at hm
    subst hm
    exact kept_zero (k := k) (fn := fn) (o := o) (show (4 : Int) ≠ 0 by decide)
  | false => exact ⟨fun h' => absurd rfl h', fun _ => h2, h1.2⟩
end Go.Proofs

namespace Go.Proofs
open Go Go.Sx
set_option maxRecDepth 10000
/-- 1024 bytes that begin with these. -/
def memL (l : List Int) (z : Nat) : List Int := l.take 1024 ++ List.replicate z 0
theorem memL_length (l : List Int) (z : Nat) : (memL l z).length = min 1024 l.length + z := by simp [memL]
theorem lmemory_c (l : List Int) (cap : Nat) (hc : l.length ≤ cap) (hm : cap ≤ maxLen) : Con Tryz.prog f_l28_memory [.s (.sl 0 0 l.length cap)] [.view (bytesI l)]
    (.all Nat (fun c => 1024 ≤ c) fun c => .ret (.t (.s (.sl 1 0 1024 c))) [.view (bytesI l), .own 5 1 c (bytesI (memL l (1024 - min l.length 1024)))]) := by
  intro K hK
  have hm' : cap ≤ 9223372036854775807 := hm
  refine enter fn_l28_memory rfl nt_l28_memory rfl rfl (fun φ w0 β0 F => ?_)
  refine c_run tt_ok (ct := []) trivial k_l28_memory [] 60 (by kernel_rfl) ?_
  refine ⟨0, min l.length 1024, ⟨_, _, rfl, rfl, rfl, ?_⟩, ⟨by omega, by omega⟩, ?_⟩
  · show (if (1024 : Int) < (l.length : Int) then (1024 : Int) else (l.length : Int)) = _
    split <;> omega
  refine ⟨⟨by simp [seg], one_seg (one_seg (bytesI_one _)), by simp only [maxLen]; omega, by omega⟩, fun c1 h1 h1' => ?_⟩
  show WpC _ _ _ _ _
  refine c_loop (α := Nat × Nat) (fun x => x.1 ≤ 1024 - min l.length 1024 ∧ min l.length 1024 + x.1 ≤ x.2) (fun x => 1024 - x.1)
    (fun x => [(0, .t (.s (.sl 0 0 l.length cap)), none), (3, .t (.s (.sl 1 0 (memL l x.1).length x.2)), none)])
    (fun x => [.view (bytesI l), .own 5 1 x.2 (bytesI (memL l x.1))]) (0, c1) ⟨Nat.zero_le _, by simpa using h1⟩ ?_ ?_
  · refine into [0, 3] ⟨⟨_, rfl, rfl⟩, ⟨_, rfl, ?_⟩, trivial⟩ ⟨_, rfl, ?_⟩ rfl rfl rfl rfl
    · simp [FV.rn, TV.rn, SV.rn, memL, Nat.min_comm]
    · simp only [seg_bytesI, memL, List.drop_zero]
      have e : ((List.take ((min l.length 1024 - 0) * 1) (List.drop (0 + 0 * 1) l)).take ((min l.length 1024 - 0) * 1)) = List.take 1024 l ++ List.replicate 0 0 := by
        simp
        rcases Nat.le_total l.length 1024 with h | h
        · rw [Nat.min_eq_left h, List.take_of_length_le (by simp), List.take_of_length_le (Nat.le_refl _), List.take_of_length_le h]
        · rw [Nat.min_eq_right h, List.take_take, Nat.min_self]
      rw [e]; rfl
  · rintro ⟨i, c⟩ ⟨hi, hic⟩
    simp only at hi hic
    dsimp only
    refine c_run' tt_ok (ct := []) trivial k_l28_memory [] 60 (by kernel_rfl) (by kernel_rfl) ?_
    refine ⟨fun h4 => ?_, fun h4 => ?_⟩
    · simp only [decide_eq_true_eq, memL_length] at h4
      refine ⟨⟨rfl, by simp, by simp <;> omega, one_u rfl, by simp [maxLen, memL]; omega, by simp [memL]; omega⟩, fun c1 hc1 hc2 => ?_⟩
      refine e_again (i + 1, c1) ⟨by simp only; omega, by simp [memL] at hc1; simp only; omega⟩ (by simp; omega) (into [0, 3] ⟨⟨_, rfl, rfl⟩, ⟨_, rfl, ?_⟩, trivial⟩ ⟨_, rfl, ?_⟩ rfl rfl rfl rfl)
      · simp [FV.rn, TV.rn, SV.rn, memL]; omega
      · have e : bytesI (memL l i) ++ seg [(SV.int IntKind.u8 0).cv] 0 1 = bytesI (memL l (i + 1)) := by
          rw [show seg [(SV.int IntKind.u8 0).cv] 0 1 = bytesI [0] from rfl, ← bytesI_append]
          unfold memL; rw [List.append_assoc, List.replicate_succ']
        rw [← e]; rfl
    · simp only [decide_eq_false_iff_not, memL_length] at h4
      have e : i = 1024 - min l.length 1024 := by omega
      subst e
      refine fin_k tt_ok (rs := rs_l28_memory) rfl rfl (hK c ?_) [0, 1] ?_ rfl rfl rfl rfl rfl
      · omega
      · rw [memL_length, show min 1024 l.length + (1024 - min l.length 1024) = 1024 by omega]; rfl
def memK (l : List Int) (hl : ∀ b ∈ l, 0 ≤ b ∧ b < 256) : Ram := ⟨memL l (1024 - min l.length 1024), by rw [memL_length]; omega, by rw [memL_length]; omega, by rw [memL_length]; omega, by
  intro b hb; unfold memL at hb; rcases List.mem_append.1 hb with h | h
  · exact hl b (List.mem_of_mem_take h)
  · rw [List.mem_replicate] at h; omega⟩
theorem memK_length (l : List Int) (hl) : (memK l hl).l.length = 1024 := by show (memL l _).length = _; rw [memL_length]; omega
noncomputable abbrev eMemory : Ent := .st (conS (P := Tryz.prog) (f := f_l28_memory) fun cargs σ0 => match cargs, σ0 with
  | [.s (.sl 0 0 n cap)], [.view xs] => some ⟨.ex (List Int) fun l => .ask (xs = bytesI l ∧ n = l.length ∧ l.length ≤ cap ∧ cap ≤ maxLen ∧ ∀ b ∈ l, 0 ≤ b ∧ b < 256)
      (.all Nat (fun c => 1024 ≤ c) fun c => .ret (.t (.s (.sl 1 0 1024 c))) [.view (bytesI l), .own 5 1 c (bytesI (memL l (1024 - min l.length 1024)))]), fun K h => by
      obtain ⟨l, ⟨e1, e2, h1, h2, h3⟩, h⟩ := h
      subst e1; subst e2
      exact lmemory_c l cap h1 h2 K h⟩
  | _, _ => none)
noncomputable abbrev eFromT : Ent := .st (conS (P := Tryz.prog) (f := f_mem_From) fun cargs σ0 => match cargs, σ0 with
  | [.s (.sl 0 0 n cap)], [.own 5 1 c xs] => some ⟨.ex Ram fun m => .ask (xs = bytesI m.l ∧ n = m.l.length ∧ c = cap)
      (.ret (.tup [.s (.loc 1 0), .s (.int .i64 0)]) [.own 5 1 cap (bytesI m.l), .blk 63 [.sl 2 0 m.l.length m.l.length], mOwn m.l]), fun K h => by
      obtain ⟨m, ⟨e1, e2, e3⟩, h⟩ := h
      subst e1; subst e2; subst e3
      refine From_o m.l _ K ⟨fun _ => h, fun hb => ?_⟩
      exfalso
      have h1 := m.lo
      have h2 := m.hi
      have h3 := m.al
      unfold mayM at hb
      simp [show (m.l.length : Int) ≥ 1024 by omega, show (m.l.length : Int) ≤ 65536 by omega, (tmod4 _).1 (show (0 : Int) ≤ m.l.length by omega)] at hb
      omega⟩
  | _, _ => none)
theorem and1_i64 (v : Int) : bits .and .i64 v 1 = v % 2 := by
  have e : bits .and .i64 v 1 = IntKind.i64.wrap ((BitVec.ofInt 64 v &&& BitVec.ofInt 64 1).toNat : Int) := rfl
  have hn : ∀ i, i < 64 → (BitVec.ofInt 64 1).getLsbD i = decide (i < 1) := by decide
  have e1 : BitVec.ofInt 64 v &&& BitVec.ofInt 64 1 = ((BitVec.ofInt 64 v).setWidth 1).setWidth 64 := by
    apply BitVec.eq_of_getLsbD_eq
    intro i hi
    rw [BitVec.getLsbD_and, hn i hi]
    simp only [BitVec.getLsbD_setWidth]
    by_cases h2 : i < 1 <;> simp [h2, hi]
  have e2 : ((((BitVec.ofInt 64 v).setWidth 1).setWidth 64).toNat : Int) = v % 2 := by
    rw [BitVec.toNat_setWidth, BitVec.toNat_setWidth, BitVec.toNat_ofInt]
    have : ((2 ^ 64 : Nat) : Int) = 18446744073709551616 := rfl
    rw [this]; omega
  rw [e, e1, e2, IntKind.wrap_i64]; omega
theorem Bytes_v (l : List Int) (hn : l.length ≤ 65536) (h0 : 1 ≤ l.length) : Con Tryz.prog f_mem_Mem_Bytes [.s (.loc 0 0)] [mBox l.length, mOwn l]
    (.ret (.t (.s (.sl 2 0 l.length l.length))) [mBox l.length, mOwn l, .view (bytesI l)]) := by
  intro K hK
  refine enter fn_mem_Mem_Bytes rfl nt_mem_Mem_Bytes rfl rfl (fun φ w0 β0 F => ?_)
  refine c_run tt_ok ctN_ok k_mem_Mem_Bytes [] 60 (by kernel_rfl) ?_
  refine ⟨fun h => ?_, fun h => ?_⟩
  · simp at h; subst h; simp at h0
  · refine ⟨l.length, ⟨rfl, rfl, by simp only [maxLen]; omega, by omega⟩, ?_⟩
    refine ⟨l.length, ⟨by simp, by simp, by simp, ?_⟩, ?_⟩
    · rw [seg_bytesI]; exact bytesI_one _
    · show WpE _ _ _ _ _
      refine e_freeze 2 rfl rfl ?_
      refine fin_k tt_ok (rs := rs_mem_Mem_Bytes) rfl rfl hK [0, 1, 2] rfl ?_ rfl rfl rfl rfl
      show pickL [mBox l.length, mOwn l, Ch.view (setV (List.replicate l.length (Value.int .u8 0)) 0 (seg (bytesI l) 0 l.length))] [0, 1, 2] = _
      rw [copy_all l _ (by simp)]; rfl
noncomputable abbrev eBytesV : Ent := .st (conS (P := Tryz.prog) (f := f_mem_Mem_Bytes) fun cargs σ0 => match cargs, σ0 with
  | [.s (.loc 0 0)], [.blk 63 [.sl 1 0 n n'], .own 5 1 c xs] => some ⟨.ex Ram fun m => .ask (xs = bytesI m.l ∧ n = m.l.length ∧ n' = m.l.length ∧ c = m.l.length)
      (.ret (.t (.s (.sl 2 0 m.l.length m.l.length))) [mBox m.l.length, mOwn m.l, .view (bytesI m.l)]), fun K h => by
      obtain ⟨m, ⟨e1, e2, e3, e4⟩, h⟩ := h
      subst e1; subst e2; subst e3; subst e4
      have := m.lo
      exact Bytes_v m.l m.hi (by omega) K h⟩
  | _, _ => none)
theorem Size_n : Con Tryz.prog f_mem_Mem_Size [.s (.raw (.pointer none))] [] (.ret (.t (.s (.int .i64 0))) []) := by
  intro K hK
  refine enter fn_mem_Mem_Size rfl nt_mem_Mem_Size rfl rfl (fun φ w0 β0 F => ?_)
  refine c_run tt_ok (ct := []) trivial k_mem_Mem_Size [] 60 (by kernel_rfl) ?_
  refine ⟨fun _ => ?_, fun h => absurd h (by decide)⟩
  exact fin_k tt_ok (rs := rs_mem_Mem_Size) rfl rfl hK [] rfl rfl rfl rfl rfl rfl
noncomputable abbrev eSizeN : Ent := .st (conS (P := Tryz.prog) (f := f_mem_Mem_Size) fun cargs σ0 => match cargs, σ0 with
  | [.s (.raw (.pointer none))], [] => some ⟨.ret (.t (.s (.int .i64 0))) [], fun K h => Size_n K h⟩
  | _, _ => none)
noncomputable abbrev ctXn : CT := [(f_mem_Mem_Size, eSizeN)]
theorem ctXn_ok : CTok Tryz.prog ctXn := ⟨con_ok cal_mem_Mem_Size _, trivial⟩
theorem Exec_n (k : Core) (fn o : Int) : Con Tryz.prog f_cpu_Exec [.agg k.sv, .s (.raw (.pointer none)), .agg [.int .u8 fn, .int .i32 o]] [] (.ret (.tup [.agg Core.zero.sv, .s (.int .i64 1)]) []) := by
  intro K hK
  refine enter fn_cpu_Exec rfl nt_cpu_Exec rfl rfl (fun φ w0 β0 F => ?_)
  refine c_run tt_ok ctXn_ok k_cpu_Exec [] 60 (by kernel_rfl) ?_
  refine ⟨fun _ => ?_, fun h => absurd h (by decide)⟩
  exact fin_k tt_ok (rs := rs_cpu_Exec) rfl rfl hK [] rfl rfl rfl rfl rfl rfl
end Go.Proofs

namespace Go.Proofs
open Go Go.Sx
set_option maxRecDepth 10000
noncomputable abbrev ctQu : CT := [(f_l28_memory, eMemory), (f_mem_From, eFromT), (f_cpu_Exec, eExec), (f_mem_Mem_Bytes, eBytesV), (f_l28_op, .pure spOp), (f_l28_works, .pure spWorks)]
theorem ctQu_ok : CTok Tryz.prog ctQu := ⟨con_ok cal_l28_memory _, con_ok cal_mem_From _, con_ok cal_cpu_Exec _, con_ok cal_mem_Mem_Bytes _, ceOp, ceWorks, trivial⟩
abbrev qk (k : Core) : Core := { k with pri := bits .and .i64 k.pri 1, busy := true }
theorem qk_ok {k : Core} (hok : k.ok) : (qk k).ok := by
  have hpr := and1_i64 k.pri
  exact ⟨hok.1, hok.2, hok.3, hok.4, hok.5, by constructor <;> (show _ ≤ _) <;> simp only [hpr] <;> omega, hok.7, hok.8, hok.9, hok.10, hok.11, hok.12, hok.13, hok.14, hok.15, hok.16, hok.17, hok.18, hok.19, hok.20, hok.21, hok.22⟩
theorem cnt_le (l l' : List Int) : ∀ n, cnt l l' n ≤ n
  | 0 => Nat.le_refl _
  | n + 1 => by
    have := cnt_le l l' n
    show cnt l l' n + _ ≤ _
    split <;> omega
theorem lend_len {k : Core} {e : Int} {m : Ram} : (Mach.lend ⟨k, e, m⟩).m.l.length = m.l.length := by
  unfold Mach.lend
  dsimp only
  repeat' (first | (refine pick (P := fun x : Mach => x.m.l.length = m.l.length) (fun _ => ?_) (fun _ => ?_)) | rfl | (simp only [set_len]; done))
theorem callM_len' (k : Core) (m : Ram) : (callM k m).l.length = m.l.length := by unfold callM; simp only [set_len]
theorem call_len {k : Core} {e n : Int} {m : Ram} : (Mach.call ⟨k, e, m⟩ n).m.l.length = m.l.length := by
  unfold Mach.call
  exact pick (P := fun x : Mach => x.m.l.length = m.l.length) (fun _ => rfl) (fun _ => callM_len' k m)
theorem fn_len {k : Core} {f n : Int} {m : Ram} : (Mach.fn ⟨k, 0, m⟩ f n).m.l.length = m.l.length := by
  unfold Mach.fn
  dsimp only
  repeat' (first | exact call_len | (refine pick (P := fun x : Mach => x.m.l.length = m.l.length) (fun _ => ?_) (fun _ => ?_)) | rfl | (simp only [set_len]; done))
theorem oth_len {o : Int} {k : Core} {m : Ram} : (othX o ⟨k, 0, m⟩).m.l.length = m.l.length := by
  unfold othX
  dsimp only
  repeat' (first | exact lend_len | (refine pick (P := fun x : Mach => x.m.l.length = m.l.length) (fun _ => ?_) (fun _ => ?_)) | rfl | exact setB_len m _ _ | exact mvM_len m _ _ _)
theorem op_len {fn o : Int} {k : Core} {m : Ram} : (opX ⟨k, 0, m⟩ fn o).m.l.length = m.l.length := by
  unfold opX
  dsimp only
  exact pick (P := fun x : Mach => x.m.l.length = m.l.length) (fun _ => fn_len) (fun _ => pick (P := fun x : Mach => x.m.l.length = m.l.length) (fun _ => rfl) (fun _ => oth_len))
theorem exP_len {k : Core} {m : Ram} {fn o : Int} : (exP k m fn o).2.2.l.length = m.l.length := by
  unfold exP
  refine pick (P := fun x : Core × Int × Ram => x.2.2.l.length = m.l.length) (fun _ => rfl) fun _ => ?_
  refine pick (P := fun x : Core × Int × Ram => x.2.2.l.length = m.l.length) (fun _ => rfl) fun _ => ?_
  exact pick (P := fun x : Core × Int × Ram => x.2.2.l.length = m.l.length) (fun _ => rfl) fun _ => op_len
set_option maxHeartbeats 8000000 in
theorem CpuQuiet_c (k : Core) (l : List Int) (cap : Nat) (fn arg : Int) (hok : k.ok) (hl : ∀ b ∈ l, 0 ≤ b ∧ b < 256) (hc : l.length ≤ cap) (hm : cap ≤ maxLen) (harg : I32 arg) :
    Con Tryz.prog f_l28_CpuQuiet [.agg k.sv, .s (.sl 0 0 l.length cap), .agg [.int .u8 fn, .int .i32 arg]] [.view (bytesI l)] (.ret (.t (.s (.bool true))) [.view (bytesI l)]) := by
  intro K hK
  refine enter fn_l28_CpuQuiet rfl nt_l28_CpuQuiet rfl rfl (fun φ w0 β0 F => ?_)
  refine c_run tt_ok ctQu_ok k_l28_CpuQuiet [] 90 (by kernel_rfl) ?_
  refine ⟨l, ⟨rfl, rfl, hc, hm, hl⟩, fun c1 hc1 => ?_⟩
  refine ⟨memK l hl, ⟨rfl, (memK_length l hl).symm, rfl⟩, ?_⟩
  obtain ⟨m, hmm⟩ : ∃ m, memK l hl = m := ⟨_, rfl⟩
  have hml := memK_length l hl
  rw [hmm] at hml ⊢
  obtain ⟨⟨k', e', m'⟩, hx⟩ : ∃ r, exP (qk k) m fn arg = r := ⟨_, rfl⟩
  have hkept := exP_kept (fn := fn) (o := arg) (m := m) (qk_ok hok) harg
  rw [hx] at hkept
  refine ⟨(m, k', e', m'), ⟨rfl, rfl, rfl, rfl, ⟨qk_ok hok, harg⟩, hx⟩, ?_⟩
  have hml' := exP_len (k := qk k) (m := m) (fn := fn) (o := arg)
  rw [hx] at hml'
  dsimp only at hml'
  refine ⟨m', ⟨rfl, rfl, rfl, rfl⟩, ?_⟩
  refine ⟨fun h => ?_, fun h => ?_⟩
  · exfalso
    rw [hml', hml] at h
    exact absurd h (by decide)
  clear h
  show WpC _ _ _ _ _
  refine c_loop (α := Nat) (fun i => i ≤ 1024) (fun i => 1024 - i)
    (fun i => [(1, .t (.s (.sl 3 0 1024 c1)), none), (3, .t (.s (.loc 1 0)), none), (5, .t (.s (.loc 2 0)), none), (7, .t (.s (.loc 4 0)), none), (9, .t (.s (.loc 6 0)), none), (10, .t (.s (.int .i64 e')), none), (11, .t (.s (.sl 7 0 1024 1024)), none), (12, .t (.s (.int .i64 ((cnt m.l m'.l i : Nat) : Int))), none), (42, .t (.s (.int .i64 1024)), none), (43, .t (.s (.int .i64 (i : Int))), none)])
    (fun _ => [.view (bytesI l), .blk 26 (qk k).sv, .blk 29 [.int .u8 fn, .int .i32 arg], .own 5 1 c1 (bytesI m.l), .blk 63 [.sl 5 0 m'.l.length m'.l.length], .own 5 1 m'.l.length (bytesI m'.l), .blk 26 k'.sv, .view (bytesI m'.l)]) 0 (Nat.zero_le _) ?_ ?_
  · exact into [0, 1, 2, 3, 4, 5, 6, 7] ⟨⟨_, rfl, rfl⟩, ⟨_, rfl, rfl⟩, ⟨_, rfl, rfl⟩, ⟨_, rfl, rfl⟩, ⟨_, rfl, rfl⟩, ⟨_, rfl, rfl⟩, ⟨_, rfl, by rw [hml', hml]; rfl⟩, ⟨_, rfl, rfl⟩, ⟨_, rfl, rfl⟩, ⟨_, rfl, rfl⟩, trivial⟩ ⟨_, rfl, rfl⟩ rfl rfl rfl rfl
  · intro i hi
    dsimp only at hi ⊢
    refine c_run' tt_ok ctQu_ok k_l28_CpuQuiet [] 90 (by kernel_rfl) (by kernel_rfl) ?_
    refine ⟨fun h => ?_, fun h => ?_⟩
    · have hlt : i < 1024 := by have := of_decide_eq_true h; omega
      have hb1 : (i + 1) * (0 + 1) ≤ m'.l.length := by omega
      have hat : ∀ (l : List Int), i < l.length → (bytesI l)[0 + i * (0 + 1)]? = some (SV.int IntKind.u8 (l.getD i 0)).cv := fun l hl => by rw [show 0 + i * (0 + 1) = i by omega]; exact bytesI_at hl
      have hb2 : (i + 1) * (0 + 1) ≤ m.l.length := by omega
      refine ⟨i, ⟨rfl, hlt, by simpa using hb1⟩, .int .u8 (m'.l.getD i 0), rfl, hat m'.l (by omega), i, ⟨rfl, hlt, by simpa using hb2⟩, .int .u8 (m.l.getD i 0), rfl, hat m.l (by omega), ?_⟩
      have hc16 := cnt_le m.l m'.l i
      refine ⟨fun h2 => ?_, fun h2 => ?_⟩
      · have hne : ¬ m'.l.getD i 0 = m.l.getD i 0 := by simpa using h2
        refine e_again (i + 1) (by show i + 1 ≤ 1024; omega) (by show 1024 - (i + 1) < 1024 - i; omega) (into [0, 1, 2, 3, 4, 5, 6, 7] ⟨⟨_, rfl, rfl⟩, ⟨_, rfl, rfl⟩, ⟨_, rfl, rfl⟩, ⟨_, rfl, rfl⟩, ⟨_, rfl, rfl⟩, ⟨_, rfl, rfl⟩, ⟨_, rfl, rfl⟩, ⟨_, rfl, fvi ?_⟩, ⟨_, rfl, rfl⟩, ⟨_, rfl, fvi (wrapSucc (by omega))⟩, trivial⟩ ⟨_, rfl, rfl⟩ rfl rfl rfl rfl)
        rw [wrapSucc (by omega), show cnt m.l m'.l (i + 1) = cnt m.l m'.l i + 1 by show cnt m.l m'.l i + _ = _; rw [if_neg hne]]
      · have hne : m'.l.getD i 0 = m.l.getD i 0 := by simpa using h2
        refine e_again (i + 1) (by show i + 1 ≤ 1024; omega) (by show 1024 - (i + 1) < 1024 - i; omega) (into [0, 1, 2, 3, 4, 5, 6, 7] ⟨⟨_, rfl, rfl⟩, ⟨_, rfl, rfl⟩, ⟨_, rfl, rfl⟩, ⟨_, rfl, rfl⟩, ⟨_, rfl, rfl⟩, ⟨_, rfl, rfl⟩, ⟨_, rfl, rfl⟩, ⟨_, rfl, fvi ?_⟩, ⟨_, rfl, rfl⟩, ⟨_, rfl, fvi (wrapSucc (by omega))⟩, trivial⟩ ⟨_, rfl, rfl⟩ rfl rfl rfl rfl)
        rw [show cnt m.l m'.l (i + 1) = cnt m.l m'.l i by show cnt m.l m'.l i + _ = _; rw [if_pos hne]; rfl]
    · have hge : i = 1024 := by have := of_decide_eq_false h; omega
      subst hge
      clear h hi
      refine ⟨fun he => ?_, fun he => ?_⟩
      · have hne : e' ≠ 0 := by simpa using he
        obtain ⟨hz, hmz⟩ := hkept.err hne
        dsimp only at hz hmz
        subst hz; subst hmz
        refine ⟨fun _ => trivial, ?_⟩
        refine fin_k tt_ok (rs := rs_l28_CpuQuiet) rfl rfl hK [0] ?_ rfl rfl rfl rfl rfl
        refine t1b ?_
        rw [cnt_self]
        simp
      · have he0 : e' = 0 := by simpa using he
        subst he0
        have hcore := hkept.core rfl
        have hmem := hkept.mem
        dsimp only at hcore hmem
        refine ⟨fun _ => trivial, fun _ => trivial, fun h90 => ?_, fun h90 => ?_⟩
        · exfalso
          cases hmv : (fn == 15 && arg == 74) with
          | true =>
            have h41 : (fn == 15 && arg == 41) = false := by
              have h1 : arg = 74 := by simp at hmv; exact hmv.2
              rw [h1]; cases (fn == 15) <;> rfl
            rw [h41] at hcore
            have herr := hcore.err rfl
            rw [show (fn == 15 && (arg == 74 && true)) = true by rw [Bool.and_true]; exact hmv] at h90
            simp only [Bool.not_true, Bool.cond_false_right, Bool.and_false] at h90
            cases hk1 : k.err with
            | false => rw [hk1] at h90; exact absurd h90 (by simp)
            | true => rw [hk1, show k'.err = true from herr hk1] at h90; exact absurd h90 (by simp)
          | false =>
            have h16 := hmem hmv 1024
            rw [show decide (((cnt m.l m'.l 1024 : Nat) : Int) > 16) = false by simp; omega] at h90
            cases h41 : (fn == 15 && arg == 41) with
            | true =>
              rw [show (fn == 15 && (arg == 41 && true)) = true by rw [Bool.and_true]; exact h41] at h90
              revert h90
              cases k.err <;> cases k'.err <;> simp
            | false =>
              rw [h41] at hcore
              have herr := hcore.err rfl
              cases hk1 : k.err with
              | false => rw [hk1] at h90; exact absurd h90 (by simp)
              | true => rw [hk1, show k'.err = true from herr hk1] at h90; exact absurd h90 (by simp)
        · refine c_waysH tt_ok ctQu_ok k_l28_CpuQuiet [1] rfl rfl rfl ?_
          refine ⟨⟨rfl, trivial⟩, ⟨rfl, trivial⟩, ⟨rfl, trivial⟩, ⟨rfl, trivial⟩, ⟨rfl, trivial⟩, ⟨rfl, trivial⟩, ⟨rfl, trivial⟩, ?_⟩
          refine e_run tt_ok ctQu_ok k_l28_CpuQuiet [] 60 (by kernel_rfl) ?_
          refine ⟨fun _ => trivial, ?_⟩
          have hr := hcore.rest
          refine fin_k tt_ok (rs := rs_l28_CpuQuiet) rfl rfl hK [0] ?_ rfl rfl rfl rfl rfl
          refine t1b ?_
          rw [hr]
          simp [Core.w7]
end Go.Proofs
