/- The plain law of a communication over a memory of 1024 bytes. No program in sight. -/
import Derived.Test.YtbdcobclpfcdhaaWalkB

namespace Go.Proofs
open Go Go.Sx
set_option maxRecDepth 10000
/-- An address of a word of a memory of 1024 bytes. -/
def inA (a : Int) : Prop := a % 4 = 0 ∧ -2147483648 ≤ a ∧ a < -2147482624
instance (a : Int) : Decidable (inA a) := by unfold inA; infer_instance
theorem inA_bad {m : Ram} {a : Int} (hl : m.l.length = 1024) (ha : inA a) : wBad m a = false := by
  unfold inA at ha
  unfold wBad spanBad ofAt wAt
  rw [hl, show decide (a - a % 4 + 2147483648 ≥ ((1024 : Nat) : Int)) = false by simp; omega]
  simp; omega
theorem inA_i32 {a : Int} (ha : inA a) : I32 a := by unfold inA at ha; unfold I32; omega
theorem err0 {m : Ram} {a : Int} (hl : m.l.length = 1024) (ha : inA a) : m.err a = 0 := by simp [Ram.err, inA_bad hl ha]
theorem word_set {m : Ram} {a b v : Int} (hl : m.l.length = 1024) (ha : inA a) (hb : inA b) (hv : I32 v) : (m.set a v).word b = if a = b then v else m.word b := by
  have h1 := inA_bad hl ha
  have h2 := inA_bad hl hb
  have hA := wBad_nat h1
  have hB := wBad_nat h2
  unfold Ram.word
  rw [set_wBad, h2, set_ok h1]
  simp only [cond_false]
  split
  · rename_i e; subst e; exact getW_setW hA hv
  · rename_i hne
    unfold inA at ha hb
    unfold ofAt wAt at *
    unfold getW setW
    rw [stW_get hA 4 (by decide), stW_get hA 4 (by decide), stW_get hA 4 (by decide), stW_get hA 4 (by decide)]
    rw [if_neg (by omega), if_neg (by omega), if_neg (by omega), if_neg (by omega)]
theorem word_at {m : Ram} {a v : Int} (hl : m.l.length = 1024) (ha : inA a) (hv : I32 v) : (m.set a v).word a = v := word_set_at (inA_bad hl ha) hv
theorem word_off {m : Ram} {a b v : Int} (hl : m.l.length = 1024) (ha : inA a) (hb : inA b) (hv : I32 v) (h : a ≠ b) : (m.set a v).word b = m.word b := by rw [word_set hl ha hb hv, if_neg h]
theorem len_set {m : Ram} {a v : Int} (hl : m.l.length = 1024) : (m.set a v).l.length = 1024 := by rw [set_len]; exact hl
theorem setL_at {l v : List Int} {off : Nat} (h : off + v.length ≤ l.length) (j : Nat) : (setL l off v).getD j 0 = if off ≤ j ∧ j < off + v.length then v.getD (j - off) 0 else l.getD j 0 := by
  unfold setL
  simp only [List.getD_eq_getElem?_getD]
  have ht : (l.take off).length = off := by simp; omega
  split
  · rename_i hj
    rw [List.getElem?_append_left (by simp; omega), List.getElem?_append_right (by omega), ht]
  · rename_i hj
    by_cases h1 : j < off
    · rw [List.getElem?_append_left (by simp; omega), List.getElem?_append_left (by omega), List.getElem?_take, if_pos h1]
    · rw [List.getElem?_append_right (by simp; omega), List.getElem?_drop]
      congr 2
      simp; omega
theorem mvBad_1024 {m : Ram} {to fr n : Int} (hl : m.l.length = 1024) (h0 : 0 ≤ n) (h1 : n ≤ 1024) (ht : -2147483648 ≤ to ∧ to + n ≤ -2147482624 ∧ to < -2147482624) (hf : -2147483648 ≤ fr ∧ fr + n ≤ -2147482624 ∧ fr < -2147482624) : mvBad m to fr n = false := by
  unfold mvBad spanBad Uw ofAt
  rw [hl]
  rw [show decide (fr + 2147483648 ≥ ((1024 : Nat) : Int)) = false by simp; omega, show decide (to + 2147483648 ≥ ((1024 : Nat) : Int)) = false by simp; omega]
  simp only [cond_false]
  rw [show decide (n % 4294967296 > ((1024 : Nat) : Int) - (fr + 2147483648)) = false by simp; omega]
  simp; omega
/-- A byte after a move. -/
theorem move_get {m : Ram} {to fr n : Int} (hl : m.l.length = 1024) (h0 : 0 ≤ n) (h1 : n ≤ 1024) (ht : -2147483648 ≤ to ∧ to + n ≤ -2147482624 ∧ to < -2147482624) (hf : -2147483648 ≤ fr ∧ fr + n ≤ -2147482624 ∧ fr < -2147482624) (j : Nat) :
    (m.move to fr n).l.getD j 0 = if ofAt to ≤ j ∧ (j : Int) < ofAt to + n then m.l.getD (ofAt fr + (j - ofAt to)).toNat 0 else m.l.getD j 0 := by
  have hb := mvBad_1024 hl h0 h1 ht hf
  have hI : I32 to ∧ I32 fr := by unfold I32; omega
  rw [move_ok hI.1 hI.2 hb]
  have hs : spanBad m.l.length fr (Uw n) = false := by
    unfold mvBad at hb
    cases h : spanBad m.l.length fr (Uw n) <;> simp [h] at hb ⊢
  have hp := part_len hI.2 hs
  have hU : Uw n = n := by unfold Uw; omega
  rw [hU] at hp
  rw [setL_at (by rw [hp, hl]; unfold ofAt; omega), hp]
  unfold ofAt
  by_cases hj : (to + 2147483648 ≤ j ∧ (j : Int) < to + 2147483648 + n)
  · rw [if_pos (by omega), if_pos hj]
    unfold Ram.part
    rw [hU]
    simp only [List.getD_eq_getElem?_getD]
    rw [List.getElem?_take, if_pos (by omega), List.getElem?_drop]
    congr 2
    unfold ofAt; omega
  · rw [if_neg (by omega), if_neg hj]
theorem word_get {m : Ram} {a : Int} (hl : m.l.length = 1024) (ha : inA a) : m.word a = getW m.l (a + 2147483648).toNat := by
  rw [word_eq (inA_bad hl ha)]
  unfold inA at ha
  rw [show wAt a = a by unfold wAt; omega]; rfl
theorem word_move_off {m : Ram} {to fr n b : Int} (hl : m.l.length = 1024) (h0 : 0 ≤ n) (h1 : n ≤ 1024) (ht : -2147483648 ≤ to ∧ to + n ≤ -2147482624 ∧ to < -2147482624) (hf : -2147483648 ≤ fr ∧ fr + n ≤ -2147482624 ∧ fr < -2147482624) (hb : inA b) (h : b + 4 ≤ to ∨ to + n ≤ b) : (m.move to fr n).word b = m.word b := by
  rw [word_get (by rw [move_len]; exact hl) hb, word_get hl hb]
  unfold inA at hb
  unfold getW
  rw [move_get hl h0 h1 ht hf, move_get hl h0 h1 ht hf, move_get hl h0 h1 ht hf, move_get hl h0 h1 ht hf]
  unfold ofAt
  rw [if_neg (by omega), if_neg (by omega), if_neg (by omega), if_neg (by omega)]
theorem word_move4 {m : Ram} {to fr : Int} (hl : m.l.length = 1024) (ht : inA to) (hf : inA fr) : (m.move to fr 4).word to = m.word fr := by
  rw [word_get (by rw [move_len]; exact hl) ht, word_get hl hf]
  unfold inA at ht hf
  unfold getW
  rw [move_get hl (by omega) (by omega) (by omega) (by omega), move_get hl (by omega) (by omega) (by omega) (by omega), move_get hl (by omega) (by omega) (by omega) (by omega), move_get hl (by omega) (by omega) (by omega) (by omega)]
  unfold ofAt
  rw [if_pos (by omega), if_pos (by omega), if_pos (by omega), if_pos (by omega)]
  rw [show (fr + 2147483648 + (((to + 2147483648).toNat : Nat) - (to + 2147483648))).toNat = (fr + 2147483648).toNat by omega]
  rw [show (fr + 2147483648 + ((((to + 2147483648).toNat + 1 : Nat) : Int) - (to + 2147483648))).toNat = (fr + 2147483648).toNat + 1 by omega]
  rw [show (fr + 2147483648 + ((((to + 2147483648).toNat + 2 : Nat) : Int) - (to + 2147483648))).toNat = (fr + 2147483648).toNat + 2 by omega]
  rw [show (fr + 2147483648 + ((((to + 2147483648).toNat + 3 : Nat) : Int) - (to + 2147483648))).toNat = (fr + 2147483648).toNat + 3 by omega]
theorem len_move {m : Ram} {to fr n : Int} (hl : m.l.length = 1024) : (m.move to fr n).l.length = 1024 := by rw [move_len]; exact hl
theorem validB_1024 {m : Ram} (hl : m.l.length = 1024) (w : Int) : validB m w = bif bif w % 4 == 0 then decide (w + 2147483648 ≥ 20) else false then decide (w + 2147483648 + 4 ≤ 1024) else false := by unfold validB ofAt; rw [hl]; rfl
/-- The first of two processes waits. -/
theorem out_first {k : Core} {m : Ram} {n ch at_ : Int} (hl : m.l.length = 1024) (hp : priBad k = false) (hi : idleB k ch = false) (hc : inA ch) (hw : m.word ch = NP) (hv : validB m k.wptr = true) (hb : k.busy = true) :
    outR k m n ch at_ = (k.nobody, 0, (wtM k m ch at_).set (IntKind.i32.wrap (k.wptr + -4)) k.iptr) := by
  unfold outR begR outR2
  rw [hp, hi]
  simp only [cond_false]
  rw [err0 hl hc, hw]
  exact wtsR_eq hb hv
theorem in_first {k : Core} {m : Ram} {n ch at_ : Int} (hl : m.l.length = 1024) (hp : priBad k = false) (hi : idleB k ch = false) (hc : inA ch) (hw : m.word ch = NP) (hv : validB m k.wptr = true) (hb : k.busy = true) :
    inR k m n ch at_ = (k.nobody, 0, (wtM k m ch at_).set (IntKind.i32.wrap (k.wptr + -4)) k.iptr) := by
  unfold inR begR inR2
  rw [hp, hi]
  simp only [cond_false]
  rw [err0 hl hc, hw]
  exact wtsR_eq hb hv
/-- What a copy does where the other's queue is empty. -/
theorem cop_ok {k : Core} {m m' : Ram} {to fr n ch d : Int} (hm : (bif decide (n > 0) then m.move to fr n else m) = m') (hb : (bif decide (n > 0) then mvBad m to fr n else false) = false) (hv : validB m (wsp d) = true) (hf : k.fr (odd d) = NP) (hn : Uw n ≤ m.l.length) :
    copR k m to fr n ch d = (((k.setF (odd d) (wsp d)).setB (odd d) (wsp d)).abc 0 0 0, 0, m'.set ch NP) := by
  have hml : m'.l.length = m.l.length := by rw [← hm]; cases decide (n > 0) <;> simp [move_len]
  unfold copR
  rw [hb, hm, show queuedB k m d = true by unfold queuedB; rw [hv, hf]; rfl, show decide (Uw n > m.l.length) = false by simp; omega]
  simp only [Bool.not_true, cond_false]
  unfold finiR appR
  rw [validB_len (m := m'.set ch NP) (m' := m) (by rw [set_len, hml]), hv, hf]
  simp
theorem in_second {k : Core} {m m' : Ram} {n ch at_ d : Int} (hl : m.l.length = 1024) (hp : priBad k = false) (hi : idleB k ch = false) (hc : inA ch) (hw : m.word ch = d) (hd : (d == NP) = false) (hv : validB m (wsp d) = true) (hf : k.fr (odd d) = NP)
    (hn : Uw n ≤ 1024) (hm : (bif decide (n > 0) then m.move at_ (m.word (stA d)) n else m) = m') (hb : (bif decide (n > 0) then mvBad m at_ (m.word (stA d)) n else false) = false) :
    inR k m n ch at_ = (((k.setF (odd d) (wsp d)).setB (odd d) (wsp d)).abc 0 0 0, 0, m'.set ch NP) := by
  unfold inR begR inR2
  rw [hp, hi]
  simp only [cond_false]
  rw [err0 hl hc, hw, hd, hv]
  exact cop_ok hm hb hv hf (by rw [hl]; exact hn)
theorem out_second {k : Core} {m m' : Ram} {n ch at_ d : Int} (hl : m.l.length = 1024) (hp : priBad k = false) (hi : idleB k ch = false) (hc : inA ch) (hw : m.word ch = d) (hd : (d == NP) = false) (hv : validB m (wsp d) = true) (hf : k.fr (odd d) = NP)
    (ha : naltB (m.word (stA d)) = true)
    (hn : Uw n ≤ 1024) (hm : (bif decide (n > 0) then m.move (m.word (stA d)) at_ n else m) = m') (hb : (bif decide (n > 0) then mvBad m (m.word (stA d)) at_ n else false) = false) :
    outR k m n ch at_ = (((k.setF (odd d) (wsp d)).setB (odd d) (wsp d)).abc 0 0 0, 0, m'.set ch NP) := by
  unfold outR begR outR2
  rw [hp, hi]
  simp only [cond_false]
  rw [err0 hl hc, hw, hd, hv, ha]
  exact cop_ok hm hb hv hf (by rw [hl]; exact hn)
theorem m0_len : m0.l.length = 1024 := by unfold m0; rw [set_len]; exact List.length_replicate
theorem m0_line : m0.word line = NP := by decide +kernel
end Go.Proofs

namespace Go.Proofs
open Go Go.Sx
set_option maxRecDepth 10000
theorem or_m256 (x : Int) : bits .or .i32 x (-256) = x % 256 - 256 := by
  have e : bits .or .i32 x (-256) = IntKind.i32.wrap ((BitVec.ofInt 32 x ||| BitVec.ofInt 32 (-256)).toNat : Int) := rfl
  have e1 : BitVec.ofInt 32 x ||| BitVec.ofInt 32 (-256) = ((BitVec.ofNat 24 16777215) ++ (BitVec.ofInt 32 x).setWidth 8 : BitVec 32) := by
    apply BitVec.eq_of_getLsbD_eq
    intro i hi
    have hn : ∀ i, i < 32 → (BitVec.ofInt 32 (-256)).getLsbD i = decide (8 ≤ i) := by decide
    have hm : ∀ i, i < 24 → (BitVec.ofNat 24 16777215).getLsbD i = true := by decide
    rw [BitVec.getLsbD_or, hn i hi, BitVec.getLsbD_append]
    by_cases h : i < 8
    · rw [if_pos h, BitVec.getLsbD_setWidth]
      simp [h, show ¬ 8 ≤ i by omega]
    · rw [if_neg h, hm _ (by omega)]
      simp [show 8 ≤ i by omega]
  rw [e, e1, BitVec.toNat_append]
  rw [show (BitVec.ofNat 24 16777215).toNat = 16777215 from rfl, BitVec.toNat_setWidth, BitVec.toNat_ofInt]
  have h8 : ((x % ((2 ^ 32 : Nat) : Int)).toNat % 2 ^ 8) < 2 ^ 8 := Nat.mod_lt _ (by decide)
  rw [← Nat.shiftLeft_add_eq_or_of_lt h8, Nat.shiftLeft_eq, IntKind.wrap_i32]
  have : ((2 ^ 32 : Nat) : Int) = 4294967296 := rfl
  rw [this]
  have : (2 : Nat) ^ 8 = 256 := rfl
  rw [this]
  omega
theorem idle_line {k : Core} (h : k.busy = true) : idleB k (-2147483548) = false := by unfold idleB; rw [h, show intB (-2147483548) = true by decide]; rfl
def shK (x : Int) : Core := ⟨x, -2147483548, 13, 0, -2147483448, 1, true, false, false, false, -2147483648, -2147483648, -2147483648, -2147483648, -2147483648, -2147483648, 0, 0, 0, 0, false, 0, 0, 0, 0, 0, false, 0⟩
def sh1 : Ram := m0.set (-2147483048) (-1)
def sh2 (x : Int) : Ram := (((sh1.set (-2147483448) x).set (-2147483548) (-2147483447)).set (-2147483460) (-2147483448)).set (-2147483452) 0
def shK2 : Core := ⟨0, 0, 0, 0, 0, 0, false, false, false, false, -2147483648, -2147483648, -2147483648, -2147483648, -2147483648, -2147483648, 0, 0, 0, 0, false, 0, 0, 0, 0, 0, false, 0⟩
theorem sh1_len : sh1.l.length = 1024 := len_set m0_len
theorem sh2_len (x : Int) : (sh2 x).l.length = 1024 := len_set (len_set (len_set (len_set sh1_len)))
theorem inA_d {a : Int} (h : decide (inA a) = true) : inA a := of_decide_eq_true h
theorem sh2_line (x : Int) (_ : I32 x) : (sh2 x).word (-2147483548) = -2147483447 := by
  unfold sh2
  rw [word_off (len_set (len_set (len_set sh1_len))) (inA_d (by decide)) (inA_d (by decide)) (i32B_ok (by decide)) (by decide), word_off (len_set (len_set sh1_len)) (inA_d (by decide)) (inA_d (by decide)) (i32B_ok (by decide)) (by decide)]
  exact word_at (len_set sh1_len) (inA_d (by decide)) (i32B_ok (by decide))
theorem sh2_p (x : Int) (hx : I32 x) : (sh2 x).word (-2147483448) = x := by
  unfold sh2
  rw [word_off (len_set (len_set (len_set sh1_len))) (inA_d (by decide)) (inA_d (by decide)) (i32B_ok (by decide)) (by decide), word_off (len_set (len_set sh1_len)) (inA_d (by decide)) (inA_d (by decide)) (i32B_ok (by decide)) (by decide),
    word_off (len_set sh1_len) (inA_d (by decide)) (inA_d (by decide)) (i32B_ok (by decide)) (by decide)]
  exact word_at sh1_len (inA_d (by decide)) hx
theorem sh2_at (x : Int) : (sh2 x).word (-2147483460) = -2147483448 := by
  unfold sh2
  rw [word_off (len_set (len_set (len_set sh1_len))) (inA_d (by decide)) (inA_d (by decide)) (i32B_ok (by decide)) (by decide)]
  exact word_at (len_set (len_set sh1_len)) (inA_d (by decide)) (i32B_ok (by decide))
theorem sh2_to (x : Int) (hx : I32 x) : (sh2 x).word (-2147483048) = -1 := by
  unfold sh2
  rw [word_off (len_set (len_set (len_set sh1_len))) (inA_d (by decide)) (inA_d (by decide)) (i32B_ok (by decide)) (by decide), word_off (len_set (len_set sh1_len)) (inA_d (by decide)) (inA_d (by decide)) (i32B_ok (by decide)) (by decide),
    word_off (len_set sh1_len) (inA_d (by decide)) (inA_d (by decide)) (i32B_ok (by decide)) (by decide), word_off sh1_len (inA_d (by decide)) (inA_d (by decide)) hx (by decide)]
  exact word_at m0_len (inA_d (by decide)) (i32B_ok (by decide))
theorem sh1_line : sh1.word (-2147483548) = NP := by
  unfold sh1
  rw [word_off m0_len (inA_d (by decide)) (inA_d (by decide)) (i32B_ok (by decide)) (by decide)]
  exact m0_line
theorem sh_out (x n : Int) (hx : I32 x) : outR (shK x) (sh1.set (-2147483448) x) n (-2147483548) (-2147483448) = (shK2, 0, sh2 x) := by
  rw [out_first (len_set sh1_len) rfl (idle_line rfl) (inA_d (by decide)) ?_ ?_ rfl]
  · rfl
  · rw [word_off sh1_len (inA_d (by decide)) (inA_d (by decide)) hx (by decide)]; exact sh1_line
  · rw [validB_1024 (len_set sh1_len)]
    show (bif bif (-2147483448 : Int) % 4 == 0 then decide ((-2147483448 : Int) + 2147483648 ≥ 20) else false then decide ((-2147483448 : Int) + 2147483648 + 4 ≤ 1024) else false) = true
    decide
theorem ex_sho {k : Core} (m : Ram) (h : priBad k = false) : execR k m 15 14 = shoR k m 1 ∧ execR k m 15 15 = shoR k m 4 ∧ execR k m 15 7 = inR k m k.a k.b k.c ∧ execR k m 15 11 = outR k m k.a k.b k.c := by
  unfold execR opR
  rw [h, show mineB 15 14 = true by decide, show mineB 15 15 = true by decide, show mineB 15 7 = true by decide, show mineB 15 11 = true by decide]
  simp
theorem sh_short (x n : Int) (hx : I32 x) : shoR (shK x) sh1 n = (shK2, 0, sh2 x) := by
  unfold shoR
  rw [show idleB (shK x) (shK x).b = false from idle_line rfl]
  rw [show outR (shK x) (sh1.set (shK x).wptr (shK x).a) n (shK x).b (shK x).wptr = _ from sh_out x n hx]
  rw [show sh1.err (shK x).wptr = 0 from err0 sh1_len (a := -2147483448) (inA_d (by decide))]
  rfl
theorem sh_ex1 (x : Int) (hx : I32 x) : execR (shK x) sh1 15 14 = (shK2, 0, sh2 x) := (ex_sho _ rfl).1.trans (sh_short x 1 hx)
theorem sh_ex4 (x : Int) (hx : I32 x) : execR (shK x) sh1 15 15 = (shK2, 0, sh2 x) := (ex_sho _ rfl).2.1.trans (sh_short x 4 hx)
def shKi (n : Int) : Core := ⟨n, -2147483548, -2147483048, 0, -2147483348, 1, true, false, false, false, -2147483648, -2147483648, -2147483648, -2147483648, -2147483648, -2147483648, 0, 0, 0, 0, false, 0, 0, 0, 0, 0, false, 0⟩
def shK3 : Core := ⟨0, 0, 0, 0, -2147483348, 1, true, false, false, false, -2147483648, -2147483448, -2147483648, -2147483448, -2147483648, -2147483648, 0, 0, 0, 0, false, 0, 0, 0, 0, 0, false, 0⟩
def sh3 (x n : Int) : Ram := ((sh2 x).move (-2147483048) (-2147483448) n).set (-2147483548) NP
theorem sh_in (x n : Int) (hx : I32 x) (h0 : 0 < n) (h4 : n ≤ 4) : execR (shKi n) (sh2 x) 15 7 = (shK3, 0, sh3 x n) := by
  refine (ex_sho _ rfl).2.2.1.trans ?_
  show inR (shKi n) (sh2 x) n (-2147483548) (-2147483048) = _
  have hs : (sh2 x).word (stA (-2147483447)) = -2147483448 := sh2_at x
  rw [in_second (m' := (sh2 x).move (-2147483048) (-2147483448) n) (sh2_len x) rfl (idle_line rfl) (inA_d (by decide)) (sh2_line x hx) (by decide) ?_ rfl (by unfold Uw; omega) ?_ ?_]
  · rfl
  · rw [validB_1024 (sh2_len x)]; decide
  · rw [hs, decide_eq_true (show n > 0 from h0), cond_true]
  · rw [hs, mvBad_1024 (sh2_len x) (by omega) (by omega) (by omega) (by omega)]; cases decide (n > 0) <;> simp
theorem sh3_4 (x : Int) (hx : I32 x) : (sh3 x 4).word (-2147483048) = x := by
  unfold sh3
  rw [word_off (len_move (sh2_len x)) (inA_d (by decide)) (inA_d (by decide)) (i32B_ok (by decide)) (by decide), word_move4 (sh2_len x) (inA_d (by decide)) (inA_d (by decide)), sh2_p x hx]
theorem sh3_1 (x : Int) (hx : I32 x) : (sh3 x 1).word (-2147483048) = x % 256 - 256 := by
  unfold sh3
  rw [word_off (len_move (sh2_len x)) (inA_d (by decide)) (inA_d (by decide)) (i32B_ok (by decide)) (by decide), word_get (len_move (sh2_len x)) (inA_d (by decide))]
  have hp := sh2_p x hx
  have ht := sh2_to x hx
  rw [word_get (sh2_len x) (inA_d (by decide))] at hp ht
  unfold getW
  rw [move_get (sh2_len x) (by decide) (by decide) (by decide) (by decide), move_get (sh2_len x) (by decide) (by decide) (by decide) (by decide), move_get (sh2_len x) (by decide) (by decide) (by decide) (by decide), move_get (sh2_len x) (by decide) (by decide) (by decide) (by decide)]
  rw [if_pos (by decide), if_neg (by decide), if_neg (by decide), if_neg (by decide)]
  have b0 := byK_word (m := sh2 x) (i := 200) 0 (by decide)
  have b1 := byK_word (m := sh2 x) (i := 600) 1 (by decide)
  have b2 := byK_word (m := sh2 x) (i := 600) 2 (by decide)
  have b3 := byK_word (m := sh2 x) (i := 600) 3 (by decide)
  rw [show getW (sh2 x).l 200 = x from hp] at b0
  rw [show getW (sh2 x).l 600 = -1 from ht] at b1 b2 b3
  have c0 : (sh2 x).l.getD 200 0 = x % 256 := by
    refine Eq.trans (Eq.symm b0) ?_
    unfold byK Uw
    show _ / 1 % 256 = _
    omega
  have c1 : (sh2 x).l.getD 601 0 = 255 := Eq.symm b1
  have c2 : (sh2 x).l.getD 602 0 = 255 := Eq.symm b2
  have c3 : (sh2 x).l.getD 603 0 = 255 := Eq.symm b3
  show Wd ((sh2 x).l.getD 200 0 + 256 * (sh2 x).l.getD 601 0 + 65536 * (sh2 x).l.getD 602 0 + 16777216 * (sh2 x).l.getD 603 0) = _
  rw [c0, c1, c2, c3]
  unfold Wd
  omega
end Go.Proofs

namespace Go.Proofs
open Go Go.Sx
set_option maxRecDepth 10000
noncomputable abbrev ctShW : CT := [(f_l30_fresh, eFresh), (f_mem_Mem_SetWord, eSetWordT), (f_l30_runs, .pure spRuns), (f_l30_passes, .pure spPasses), (f_channel_Exec, eExec), (f_l30_word, eLword), (f_l30_awake, .pure spAwake)]
theorem ctShW_ok : CTok Try.prog ctShW := ⟨con_ok cal_l30_fresh _, con_ok cal_mem_Mem_SetWord _, ceRuns, cePasses, con_ok cal_channel_Exec _, con_ok cal_l30_word _, ceAwake, trivial⟩
theorem shK_ok {x : Int} (hx : I32 x) : (shK x).ok := by
  have h := okB_ok (k := shK 0) (by decide +kernel)
  exact { h with a := hx }
theorem shKi_ok {n : Int} (hn : I32 n) : (shKi n).ok := by
  have h := okB_ok (k := shKi 0) (by decide +kernel)
  exact { h with a := hn }
theorem sh_in' {k : Core} {n : Int} (hk : k = shKi n) (x : Int) (hx : I32 x) (h0 : 0 < n) (h4 : n ≤ 4) : execR k (sh2 x) 15 7 = (shK3, 0, sh3 x n) := by subst hk; exact sh_in x n hx h0 h4
theorem ChannelShort_c (x : Int) (b : Bool) (hx : I32 x) : Con Try.prog f_l30_ChannelShort [.s (.int .i32 x), .s (.bool b)] [] (.ret (.t (.s (.bool true))) []) := by
  intro K hK
  refine enter fn_l30_ChannelShort rfl nt_l30_ChannelShort rfl rfl (fun φ w0 β0 F => ?_)
  refine c_run tt_ok ctShW_ok k_l30_ChannelShort [100015] 60 (by kernel_rfl) ?_
  refine ⟨m0, ⟨rfl, rfl, rfl, rfl, i32B_ok (by decide)⟩, ?_⟩
  refine ⟨.t (.s (.int .i32 (x % 256 - 256))), fun β => by rw [← or_m256], rfl, ?_⟩
  have hI : ∀ n, i32B n = true → I32 n := fun n h => i32B_ok h
  have hx2 : (x == x) = true := by simp
  refine ⟨fun h => ⟨trivial, (sh1, shK2, 0, sh2 x), ⟨rfl, rfl, rfl, rfl, shK_ok hx, sh_ex4 x hx⟩, ?_⟩, fun h => ⟨trivial, (sh1, shK2, 0, sh2 x), ⟨rfl, rfl, rfl, rfl, shK_ok hx, sh_ex1 x hx⟩, ?_⟩⟩
  · refine ⟨fun _ => ⟨sh2 x, ⟨rfl, rfl, rfl, rfl, hI _ (by decide)⟩, ?_⟩, fun h => absurd h (by simp)⟩
    have h1 := sh2_p x hx
    have h2 := sh2_at x
    refine ⟨fun _ => ⟨sh2 x, ⟨rfl, rfl, rfl, rfl, hI _ (by decide)⟩, ?_⟩, fun h => absurd h (by simp [h1])⟩
    refine ⟨fun h => absurd h (by simp [h1, h2]), fun _ => ⟨trivial, ?_⟩⟩
    refine ⟨(sh2 x, shK3, 0, sh3 x 4), ⟨rfl, rfl, rfl, rfl, shKi_ok (n := 4) (hI _ (by decide)), by dsimp only; exact sh_in' (n := 4) rfl x hx (by decide) (by decide)⟩, ?_⟩
    refine ⟨fun _ => ⟨sh3 x 4, ⟨rfl, rfl, rfl, rfl, hI _ (by decide)⟩, ?_⟩, fun h => absurd h (by simp)⟩
    have h3 := sh3_4 x hx
    refine ⟨fun _ => trivial, ?_⟩
    refine fin_k tt_ok (rs := rs_l30_ChannelShort) rfl rfl hK [] (t1b ?_) rfl rfl rfl rfl rfl
    simp [h3]
  · refine ⟨fun _ => ⟨sh2 x, ⟨rfl, rfl, rfl, rfl, hI _ (by decide)⟩, ?_⟩, fun h => absurd h (by simp)⟩
    have h1 := sh2_p x hx
    have h2 := sh2_at x
    refine ⟨fun _ => ⟨sh2 x, ⟨rfl, rfl, rfl, rfl, hI _ (by decide)⟩, ?_⟩, fun h => absurd h (by simp [h1])⟩
    refine ⟨fun h => absurd h (by simp [h1, h2]), fun _ => ⟨trivial, ?_⟩⟩
    refine ⟨(sh2 x, shK3, 0, sh3 x 1), ⟨rfl, rfl, rfl, rfl, shKi_ok (n := 1) (hI _ (by decide)), by dsimp only; exact sh_in' (n := 1) rfl x hx (by decide) (by decide)⟩, ?_⟩
    refine ⟨fun _ => ⟨sh3 x 1, ⟨rfl, rfl, rfl, rfl, hI _ (by decide)⟩, ?_⟩, fun h => absurd h (by simp)⟩
    have h3 := sh3_1 x hx
    refine ⟨fun _ => trivial, ?_⟩
    refine fin_k tt_ok (rs := rs_l30_ChannelShort) rfl rfl hK [] (t1b ?_) rfl rfl rfl rfl rfl
    simp [h3]
end Go.Proofs

namespace Go.Proofs
open Go Go.Sx
set_option maxRecDepth 10000
def isW (w : Int) : Prop := w = -2147483448 ∨ w = -2147483348
def pr01 (o : Bool) : Int := bif o then 1 else 0
/-- The memory in which the first one waits. -/
def fm (m : Ram) (w d at_ i : Int) : Ram := ((m.set (-2147483548) d).set (w + -12) at_).set (w + -4) i
/-- The memory that the second one leaves. -/
def sm (m : Ram) (to fr n : Int) : Ram := (bif decide (n > 0) then m.move to fr n else m).set (-2147483548) NP
theorem fm_len {m : Ram} (hl : m.l.length = 1024) (w d at_ i : Int) : (fm m w d at_ i).l.length = 1024 := len_set (len_set (len_set hl))
theorem line_in : inA (-2147483548) := inA_d (by decide)
theorem isW_in {w : Int} (h : isW w) : inA (w + -12) ∧ inA (w + -4) ∧ inA w ∧ w + -12 ≠ -2147483548 ∧ w + -4 ≠ -2147483548 := by
  rcases h with rfl | rfl <;> exact ⟨inA_d (by decide), inA_d (by decide), inA_d (by decide), by decide, by decide⟩
theorem fm_line {m : Ram} {w d at_ i : Int} (hl : m.l.length = 1024) (hw : isW w) (hd : I32 d) (ha : I32 at_) (hi : I32 i) : (fm m w d at_ i).word (-2147483548) = d := by
  obtain ⟨h1, h2, _, h3, h4⟩ := isW_in hw
  unfold fm
  rw [word_off (len_set (len_set hl)) h2 line_in hi h4, word_off (len_set hl) h1 line_in ha h3]
  exact word_at hl line_in hd
theorem fm_at {m : Ram} {w d at_ i : Int} (hl : m.l.length = 1024) (hw : isW w) (ha : I32 at_) (hi : I32 i) : (fm m w d at_ i).word (w + -12) = at_ := by
  obtain ⟨h1, h2, _, h3, h4⟩ := isW_in hw
  unfold fm
  rw [word_off (len_set (len_set hl)) h2 h1 hi (by omega)]
  exact word_at (len_set hl) h1 ha
theorem fm_ip {m : Ram} {w d at_ i : Int} (hl : m.l.length = 1024) (hw : isW w) (hi : I32 i) : (fm m w d at_ i).word (w + -4) = i := by
  obtain ⟨h1, h2, _, h3, h4⟩ := isW_in hw
  exact word_at (len_set (len_set hl)) h2 hi
theorem fm_off {m : Ram} {w d at_ i b : Int} (hl : m.l.length = 1024) (hw : isW w) (hd : I32 d) (ha : I32 at_) (hi : I32 i) (hb : inA b) (b1 : b ≠ -2147483548) (b2 : b ≠ w + -12) (b3 : b ≠ w + -4) : (fm m w d at_ i).word b = m.word b := by
  obtain ⟨h1, h2, _, h3, h4⟩ := isW_in hw
  unfold fm
  rw [word_off (len_set (len_set hl)) h2 hb hi (Ne.symm b3), word_off (len_set hl) h1 hb ha (Ne.symm b2), word_off hl line_in hb hd (Ne.symm b1)]
theorem sm_len {m : Ram} (hl : m.l.length = 1024) (to fr n : Int) : (sm m to fr n).l.length = 1024 := by
  unfold sm
  refine len_set ?_
  cases decide (n > 0)
  · exact hl
  · exact len_move hl
theorem NP_i32 : I32 NP := i32B_ok (by decide)
theorem sm_line {m : Ram} (hl : m.l.length = 1024) (to fr n : Int) : (sm m to fr n).word (-2147483548) = NP := by
  refine word_at ?_ line_in NP_i32
  cases decide (n > 0)
  · exact hl
  · exact len_move hl
/-- Where a move lies. -/
def rng (to n : Int) : Prop := -2147483648 ≤ to ∧ to + n ≤ -2147482624 ∧ to < -2147482624
theorem sm_off {m : Ram} {to fr n b : Int} (hl : m.l.length = 1024) (hb : inA b) (b1 : b ≠ -2147483548) (h0 : n = 0 ∨ 0 < n ∧ n ≤ 1024 ∧ rng to n ∧ rng fr n ∧ (b + 4 ≤ to ∨ to + n ≤ b)) : (sm m to fr n).word b = m.word b := by
  unfold sm
  rcases h0 with rfl | ⟨h0, h1, ht, hf, ho⟩
  · rw [show decide ((0 : Int) > 0) = false by decide, cond_false, word_off hl line_in hb NP_i32 (Ne.symm b1)]
  · rw [decide_eq_true (show n > 0 from h0), cond_true, word_off (len_move hl) line_in hb NP_i32 (Ne.symm b1), word_move_off hl (by omega) h1 ht hf hb ho]
theorem sm_4 {m : Ram} {to fr : Int} (hl : m.l.length = 1024) (ht : inA to) (hf : inA fr) (b1 : to ≠ -2147483548) : (sm m to fr 4).word to = m.word fr := by
  unfold sm
  rw [show decide ((4 : Int) > 0) = true by decide, cond_true, word_off (len_move hl) line_in ht NP_i32 (Ne.symm b1), word_move4 hl ht hf]
theorem priBad_ok {k : Core} {o : Bool} (h : k.pri = pr01 o) : priBad k = false := by
  unfold priBad; rw [h]; cases o <;> rfl
theorem validB_w {m : Ram} {w : Int} (hl : m.l.length = 1024) (hw : isW w) : validB m w = true := by
  rw [validB_1024 hl]
  rcases hw with rfl | rfl <;> decide
theorem wtM_fm {k : Core} {m : Ram} {w : Int} {o : Bool} {at_ : Int} (h : k.wptr = w) (hw : isW w) (hp : k.pri = pr01 o) : (wtM k m (-2147483548) at_).set (IntKind.i32.wrap (k.wptr + -4)) k.iptr = fm m w (w + pr01 o) at_ k.iptr := by
  unfold wtM ownAt fm
  rw [h, hp]
  rcases hw with rfl | rfl <;> cases o <;> rfl
theorem first_out {k : Core} {m : Ram} {w n at_ : Int} {o : Bool} (hl : m.l.length = 1024) (h : k.wptr = w) (hw : isW w) (hp : k.pri = pr01 o) (hb : k.busy = true) (hc : m.word (-2147483548) = NP) :
    outR k m n (-2147483548) at_ = (k.nobody, 0, fm m w (w + pr01 o) at_ k.iptr) := by
  rw [out_first hl (priBad_ok hp) (idle_line hb) line_in hc (by rw [h]; exact validB_w hl hw) hb, wtM_fm h hw hp]
theorem first_in {k : Core} {m : Ram} {w n at_ : Int} {o : Bool} (hl : m.l.length = 1024) (h : k.wptr = w) (hw : isW w) (hp : k.pri = pr01 o) (hb : k.busy = true) (hc : m.word (-2147483548) = NP) :
    inR k m n (-2147483548) at_ = (k.nobody, 0, fm m w (w + pr01 o) at_ k.iptr) := by
  rw [in_first hl (priBad_ok hp) (idle_line hb) line_in hc (by rw [h]; exact validB_w hl hw) hb, wtM_fm h hw hp]
theorem d_w {w : Int} (hw : isW w) (o : Bool) : wsp (w + pr01 o) = w ∧ odd (w + pr01 o) = o ∧ ((w + pr01 o) == NP) = false ∧ stA (w + pr01 o) = w + -12 := by
  rcases hw with rfl | rfl <;> cases o <;> decide
def putQ (k : Core) (o : Bool) (w : Int) : Core := ((k.setF o w).setB o w).abc 0 0 0
theorem cop_cond {m : Ram} {to fr n : Int} (hl : m.l.length = 1024) (h0 : n = 0 ∨ 0 < n ∧ n ≤ 1024 ∧ rng to n ∧ rng fr n) : Uw n ≤ 1024 ∧ (bif decide (n > 0) then mvBad m to fr n else false) = false := by
  rcases h0 with rfl | ⟨h0, h1, ht, hf⟩
  · exact ⟨by decide, rfl⟩
  · refine ⟨by unfold Uw; omega, ?_⟩
    rw [mvBad_1024 hl (by omega) h1 ht hf]
    cases decide (n > 0) <;> rfl
theorem second_in {k : Core} {m : Ram} {w n at_ s : Int} {o o2 : Bool} (hl : m.l.length = 1024) (hw : isW w) (hp : k.pri = pr01 o2) (hb : k.busy = true) (hc : m.word (-2147483548) = w + pr01 o) (hs : m.word (w + -12) = s) (hf : k.fr o = NP)
    (h0 : n = 0 ∨ 0 < n ∧ n ≤ 1024 ∧ rng at_ n ∧ rng s n) : inR k m n (-2147483548) at_ = (putQ k o w, 0, sm m at_ s n) := by
  obtain ⟨d1, d2, d3, d4⟩ := d_w hw o
  obtain ⟨c1, c2⟩ := cop_cond hl h0
  rw [in_second (m' := bif decide (n > 0) then m.move at_ s n else m) hl (priBad_ok hp) (idle_line hb) line_in hc d3 (by rw [d1]; exact validB_w hl hw) (by rw [d2]; exact hf) c1 (by rw [d4, hs]) (by rw [d4, hs]; exact c2), d1, d2]
  rfl
theorem second_out {k : Core} {m : Ram} {w n at_ s : Int} {o o2 : Bool} (hl : m.l.length = 1024) (hw : isW w) (hp : k.pri = pr01 o2) (hb : k.busy = true) (hc : m.word (-2147483548) = w + pr01 o) (hs : m.word (w + -12) = s) (hf : k.fr o = NP) (hna : naltB s = true)
    (h0 : n = 0 ∨ 0 < n ∧ n ≤ 1024 ∧ rng s n ∧ rng at_ n) : outR k m n (-2147483548) at_ = (putQ k o w, 0, sm m s at_ n) := by
  obtain ⟨d1, d2, d3, d4⟩ := d_w hw o
  obtain ⟨c1, c2⟩ := cop_cond hl h0
  rw [out_second (m' := bif decide (n > 0) then m.move s at_ n else m) hl (priBad_ok hp) (idle_line hb) line_in hc d3 (by rw [d1]; exact validB_w hl hw) (by rw [d2]; exact hf) (by rw [d4, hs]; exact hna) c1 (by rw [d4, hs]) (by rw [d4, hs]; exact c2), d1, d2]
  rfl
theorem isWp : isW (-2147483448) := .inl rfl
theorem isWq : isW (-2147483348) := .inr rfl
/-- The core in which nobody runs. -/
def noK : Core := ⟨0, 0, 0, 0, 0, 0, false, false, false, false, -2147483648, -2147483648, -2147483648, -2147483648, -2147483648, -2147483648, 0, 0, 0, 0, false, 0, 0, 0, 0, 0, false, 0⟩
theorem runK_ok {w p i : Int} (hw : I32 w) (hp : p = 0 ∨ p = 1) (hi : I32 i) : (runK w p i).ok := by
  have h := okB_ok (k := runK 0 0 0) (by decide +kernel)
  exact { h with wptr := hw, pri := (by show -9223372036854775808 ≤ p ∧ p ≤ 9223372036854775807; omega), iptr := hi }
theorem pass_ok {k : Core} (hk : k.ok) {w p i : Int} (hw : I32 w) (hp : p = 0 ∨ p = 1) (hi : I32 i) : (k.pass w p i).ok := by
  exact { hk with wptr := hw, pri := (by show -9223372036854775808 ≤ p ∧ p ≤ 9223372036854775807; omega), iptr := hi, a := i32B_ok (n := 11) (by decide), b := i32B_ok (n := 12) (by decide), c := i32B_ok (n := 13) (by decide) }
theorem noK_ok : noK.ok := okB_ok (by decide +kernel)
theorem nobody_run (w p i : Int) : (runK w p i).nobody = noK := rfl
end Go.Proofs

namespace Go.Proofs
open Go Go.Sx
set_option maxRecDepth 10000
noncomputable abbrev ctNo : CT := [(f_l30_fresh, eFresh), (f_mem_Mem_SetWord, eSetWordT), (f_l30_runs, .pure spRuns), (f_l30_passes, .pure spPasses), (f_channel_Out, eOut), (f_channel_In, eIn), (f_l30_word, eLword), (f_l30_awake, .pure spAwake)]
theorem ctNo_ok : CTok Try.prog ctNo := ⟨con_ok cal_l30_fresh _, con_ok cal_mem_Mem_SetWord _, ceRuns, cePasses, con_ok cal_channel_Out _, con_ok cal_channel_In _, con_ok cal_l30_word _, ceAwake, trivial⟩
def gotK (w v : Int) : Core := ⟨0, 0, 0, 0, v, 1, true, false, false, false, -2147483648, w, -2147483648, w, -2147483648, -2147483648, 0, 0, 0, 0, false, 0, 0, 0, 0, 0, false, 0⟩
def noA (w at_ : Int) : Ram := fm m0 w (w + 1) at_ 0
theorem nothing_o1 (n at_ : Int) : outR (runK (-2147483448) 1 0) m0 n (-2147483548) at_ = (noK, 0, noA (-2147483448) at_) := first_out (o := true) m0_len rfl isWp rfl rfl m0_line
theorem nothing_i1 (n at_ : Int) : inR (runK (-2147483348) 1 0) m0 n (-2147483548) at_ = (noK, 0, noA (-2147483348) at_) := first_in (o := true) m0_len rfl isWq rfl rfl m0_line
theorem noA_line {w at_ : Int} (hw : isW w) (ha : I32 at_) : (noA w at_).word (-2147483548) = w + pr01 true := fm_line m0_len hw (by rcases hw with rfl | rfl <;> exact i32B_ok (by decide)) ha (i32B_ok (by decide))
theorem noA_at {w at_ : Int} (hw : isW w) (ha : I32 at_) : (noA w at_).word (w + -12) = at_ := fm_at m0_len hw ha (i32B_ok (by decide))
theorem nothing_o2 {s : Int} (at_ : Int) (hs : I32 s) (hn : naltB s = true) : outR (noK.pass (-2147483448) 1 0) (noA (-2147483348) s) 0 (-2147483548) at_ = (gotK (-2147483348) (-2147483448), 0, sm (noA (-2147483348) s) s at_ 0) :=
  second_out (o := true) (o2 := true) (fm_len m0_len _ _ _ _) isWq rfl rfl (noA_line isWq hs) (noA_at isWq hs) rfl hn (.inl rfl)
theorem nothing_i2 {s : Int} (at_ : Int) (hs : I32 s) : inR (noK.pass (-2147483348) 1 0) (noA (-2147483448) s) 0 (-2147483548) at_ = (gotK (-2147483448) (-2147483348), 0, sm (noA (-2147483448) s) at_ s 0) :=
  second_in (o := true) (o2 := true) (fm_len m0_len _ _ _ _) isWp rfl rfl (noA_line isWp hs) (noA_at isWp hs) rfl (.inl rfl)
theorem ChannelNothing_c (s d : Int) (b : Bool) (hs : I32 s) (hd : I32 d) : Con Try.prog f_l30_ChannelNothing [.s (.int .i32 s), .s (.int .i32 d), .s (.bool b)] [] (.ret (.t (.s (.bool true))) []) := by
  intro K hK
  refine enter fn_l30_ChannelNothing rfl nt_l30_ChannelNothing rfl rfl (fun φ w0 β0 F => ?_)
  refine c_run tt_ok ctNo_ok k_l30_ChannelNothing [] 60 (by kernel_rfl) ?_
  have hI : ∀ n, i32B n = true → I32 n := fun n h => i32B_ok h
  refine ⟨fun h => ⟨trivial, ?_⟩, fun h => ⟨fun hb => ⟨trivial, ?_⟩, fun hb => ⟨trivial, ?_⟩⟩⟩
  · exact fin_k tt_ok (rs := rs_l30_ChannelNothing) rfl rfl hK [] rfl rfl rfl rfl rfl rfl
  · obtain ⟨M1, e1, M2, e2, h3⟩ : ∃ M1, outR (runK (-2147483448) 1 0) m0 0 (-2147483548) s = (noK, 0, M1) ∧ ∃ M2, inR (noK.pass (-2147483348) 1 0) M1 0 (-2147483548) d = (gotK (-2147483448) (-2147483348), 0, M2) ∧ M2.word (-2147483548) = NP :=
      ⟨_, nothing_o1 0 s, _, nothing_i2 d hs, sm_line (fm_len m0_len _ _ _ _) _ _ _⟩
    refine ⟨(m0, noK, 0, M1), ⟨rfl, rfl, rfl, rfl, ⟨runK_ok (hI _ (by decide)) (.inr rfl) (hI _ (by decide)), hI _ (by decide), hI _ (by decide), hs⟩, e1⟩, ?_⟩
    refine ⟨fun _ => ⟨trivial, (M1, gotK (-2147483448) (-2147483348), 0, M2), ⟨rfl, rfl, rfl, rfl, ⟨pass_ok noK_ok (hI _ (by decide)) (.inr rfl) (hI _ (by decide)), hI _ (by decide), hI _ (by decide), hd⟩, by dsimp only; exact e2⟩, ?_⟩, fun h => absurd h (by simp)⟩
    refine ⟨fun _ => ?_, fun h => absurd (hb.symm.trans h) (by decide)⟩
    refine ⟨fun _ => ⟨M2, ⟨rfl, rfl, rfl, rfl, hI _ (by decide)⟩, ?_⟩, fun h => absurd h (by simp)⟩
    refine ⟨fun _ => trivial, ?_⟩
    refine fin_k tt_ok (rs := rs_l30_ChannelNothing) rfl rfl hK [] (t1b ?_) rfl rfl rfl rfl rfl
    simp [h3, NP]
  · have hn : naltB d = true := by
      unfold naltB
      cases h1 : d == -2147483647 <;> cases h2 : d == -2147483646 <;> cases h3 : d == -2147483645 <;> simp_all
    obtain ⟨M1, e1, M2, e2, h3⟩ : ∃ M1, inR (runK (-2147483348) 1 0) m0 0 (-2147483548) d = (noK, 0, M1) ∧ ∃ M2, outR (noK.pass (-2147483448) 1 0) M1 0 (-2147483548) s = (gotK (-2147483348) (-2147483448), 0, M2) ∧ M2.word (-2147483548) = NP :=
      ⟨_, nothing_i1 0 d, _, nothing_o2 s hd hn, sm_line (fm_len m0_len _ _ _ _) _ _ _⟩
    refine ⟨(m0, noK, 0, M1), ⟨rfl, rfl, rfl, rfl, ⟨runK_ok (hI _ (by decide)) (.inr rfl) (hI _ (by decide)), hI _ (by decide), hI _ (by decide), hd⟩, e1⟩, ?_⟩
    refine ⟨fun _ => ⟨trivial, (M1, gotK (-2147483348) (-2147483448), 0, M2), ⟨rfl, rfl, rfl, rfl, ⟨pass_ok noK_ok (hI _ (by decide)) (.inr rfl) (hI _ (by decide)), hI _ (by decide), hI _ (by decide), hs⟩, by dsimp only; exact e2⟩, ?_⟩, fun h => absurd h (by simp)⟩
    refine ⟨fun h => absurd (h.symm.trans hb) (by decide), fun _ => ?_⟩
    refine ⟨fun _ => ⟨M2, ⟨rfl, rfl, rfl, rfl, hI _ (by decide)⟩, ?_⟩, fun h => absurd h (by simp)⟩
    refine ⟨fun _ => trivial, ?_⟩
    refine fin_k tt_ok (rs := rs_l30_ChannelNothing) rfl rfl hK [] (t1b ?_) rfl rfl rfl rfl rfl
    simp [h3, NP]
end Go.Proofs

namespace Go.Proofs
open Go Go.Sx
set_option maxRecDepth 10000
theorem and1_u8 (v : Int) : bits .and .u8 v 1 = v % 2 := by
  have e : bits .and .u8 v 1 = IntKind.u8.wrap ((BitVec.ofInt 8 v &&& BitVec.ofInt 8 1).toNat : Int) := rfl
  have hn : ∀ i, i < 8 → (BitVec.ofInt 8 1).getLsbD i = decide (i < 1) := by decide
  have e1 : BitVec.ofInt 8 v &&& BitVec.ofInt 8 1 = ((BitVec.ofInt 8 v).setWidth 1).setWidth 8 := by
    apply BitVec.eq_of_getLsbD_eq
    intro i hi
    rw [BitVec.getLsbD_and, hn i hi]
    simp only [BitVec.getLsbD_setWidth]
    by_cases h2 : i < 1 <;> simp [h2, hi]
  have e2 : ((((BitVec.ofInt 8 v).setWidth 1).setWidth 8).toNat : Int) = v % 2 := by
    rw [BitVec.toNat_setWidth, BitVec.toNat_setWidth, BitVec.toNat_ofInt]
    have : ((2 ^ 8 : Nat) : Int) = 256 := rfl
    rw [this]; omega
  rw [e, e1, e2, IntKind.wrap_u8]; omega
def chM (x s d : Int) : Ram := ((m0.set (-2147483248) x).set (-2147483548) d).set (-2147483360) s
def chK (s : Int) (o : Bool) : Core := bif s == -2147483646 then (noK.setF o (-2147483348)).setB o (-2147483348) else noK
theorem choices_first {x s : Int} {o : Bool} (hx : I32 x) (hs : s = -2147483647 ∨ s = -2147483646 ∨ s = -2147483645) :
    ∃ M, outR (runK (-2147483448) 1 3) (chM x s (-2147483348 + pr01 o)) 4 (-2147483548) (-2147483248) = (chK s o, 0, M) ∧ M.l.length = 1024 ∧ M.word (-2147483360) = -2147483645 ∧ M.word (-2147483548) = -2147483448 + pr01 true ∧ M.word (-2147483448 + -12) = -2147483248 ∧ M.word (-2147483452) = 3 ∧ M.word (-2147483248) = x := by
  have hd : I32 (-2147483348 + pr01 o) := by cases o <;> exact i32B_ok (by decide)
  have hsI : I32 s := by rcases hs with rfl | rfl | rfl <;> exact i32B_ok (by decide)
  have a1 : inA (-2147483248) := inA_d (by decide)
  have a2 : inA (-2147483360) := inA_d (by decide)
  have hl0 := m0_len
  generalize hM : chM x s (-2147483348 + pr01 o) = m
  have hl : m.l.length = 1024 := by rw [← hM]; exact len_set (len_set (len_set hl0))
  have hw : m.word (-2147483548) = -2147483348 + pr01 o := by
    rw [← hM]
    unfold chM
    rw [word_off (len_set (len_set hl0)) a2 line_in hsI (by decide)]
    exact word_at (len_set hl0) line_in hd
  have hst : m.word (-2147483360) = s := by
    rw [← hM]
    exact word_at (len_set (len_set hl0)) a2 hsI
  have hfr : m.word (-2147483248) = x := by
    rw [← hM]
    unfold chM
    rw [word_off (len_set (len_set hl0)) a2 a1 hsI (by decide), word_off (len_set hl0) line_in a1 hd (by decide)]
    exact word_at hl0 a1 hx
  clear hM
  obtain ⟨d1, d2, d3, d4⟩ := d_w isWq o
  generalize hm' : m.set (-2147483360) (-2147483645) = m'
  have hl' : m'.l.length = 1024 := by rw [← hm']; exact len_set hl
  have h5 : m'.word (-2147483360) = -2147483645 := by rw [← hm']; exact word_at hl a2 (i32B_ok (by decide))
  have h6 : m'.word (-2147483248) = x := by rw [← hm', word_off hl a2 a1 (i32B_ok (by decide)) (by decide)]; exact hfr
  have hF : I32 (-2147483448 + pr01 true) := i32B_ok (by decide)
  have h3 : I32 3 := i32B_ok (by decide)
  refine ⟨fm m' (-2147483448) (-2147483448 + pr01 true) (-2147483248) 3, ?_, fm_len hl' _ _ _ _, ?_, fm_line hl' isWp hF (inA_i32 a1) h3, fm_at hl' isWp (inA_i32 a1) h3, fm_ip hl' isWp h3, ?_⟩
  · unfold outR begR outR2
    rw [priBad_ok (k := runK (-2147483448) 1 3) (o := true) rfl, idle_line (k := runK (-2147483448) 1 3) rfl]
    simp only [cond_false]
    rw [err0 hl line_in, hw, d3, d1, validB_w hl isWq, d4]
    rw [show (-2147483348 + -12 : Int) = -2147483360 by decide, hst]
    rw [show naltB s = false by rcases hs with rfl | rfl | rfl <;> decide]
    rw [show oBad (runK (-2147483448) 1 3) m (-2147483348 + pr01 o) s = false by
      unfold oBad
      rw [show validB m (runK (-2147483448) 1 3).wptr = true from validB_w hl isWp]
      have : queuedB (runK (-2147483448) 1 3) m (-2147483348 + pr01 o) = true := by
        unfold queuedB
        rw [d1, d2, validB_w hl isWq]
        cases o <;> rfl
      rw [this]
      cases s == -2147483646 <;> rfl]
    have hA : oApp (runK (-2147483448) 1 3) m (-2147483348 + pr01 o) s = (bif s == -2147483646 then ((runK (-2147483448) 1 3).setF o (-2147483348)).setB o (-2147483348) else runK (-2147483448) 1 3, 0, m') := by
      unfold oApp
      rw [d4, show (-2147483348 + -12 : Int) = -2147483360 by decide, hm']
      cases hs2 : (s == -2147483646)
      · rfl
      · simp only [cond_true]
        unfold appR
        rw [d1, d2, validB_w hl' isWq]
        cases o <;> rfl
    simp only [Bool.not_true, cond_false]
    rw [hA]
    simp only
    rw [wtsR_eq (by cases s == -2147483646 <;> cases o <;> rfl) (by rw [show (bif s == -2147483646 then ((runK (-2147483448) 1 3).setF o (-2147483348)).setB o (-2147483348) else runK (-2147483448) 1 3).wptr = -2147483448 by cases s == -2147483646 <;> cases o <;> rfl]; exact validB_w hl' isWp)]
    rw [wtM_fm (w := -2147483448) (o := true) (by cases s == -2147483646 <;> cases o <;> rfl) isWp (by cases s == -2147483646 <;> cases o <;> rfl)]
    unfold chK
    cases s == -2147483646 <;> cases o <;> rfl
  · rw [fm_off hl' isWp hF (inA_i32 a1) h3 a2 (by decide) (by decide) (by decide)]; exact h5
  · rw [fm_off hl' isWp hF (inA_i32 a1) h3 a1 (by decide) (by decide) (by decide)]; exact h6
theorem choices_second {x : Int} {o : Bool} {M : Ram} (hl : M.l.length = 1024) (hc : M.word (-2147483548) = -2147483448 + pr01 true) (hs : M.word (-2147483448 + -12) = -2147483248) (hx : M.word (-2147483248) = x) :
    ∃ M', inR (noK.pass (-2147483348) (pr01 o) 4) M 4 (-2147483548) (-2147483048) = (putQ (noK.pass (-2147483348) (pr01 o) 4) true (-2147483448), 0, M') ∧ M'.word (-2147483048) = x ∧ M'.word (-2147483548) = NP := by
  refine ⟨_, second_in (o := true) (o2 := o) hl isWp rfl rfl hc hs rfl (.inr ⟨by decide, by decide, by unfold rng; decide, by unfold rng; decide⟩), ?_, sm_line hl _ _ _⟩
  rw [sm_4 hl (inA_d (by decide)) (inA_d (by decide)) (by decide)]; exact hx
end Go.Proofs

namespace Go.Proofs
open Go Go.Sx
set_option maxRecDepth 10000
theorem chK_cases (s : Int) (o : Bool) : chK s o = noK ∨ chK s o = (noK.setF o (-2147483348)).setB o (-2147483348) := by
  unfold chK; cases s == -2147483646
  · exact .inl rfl
  · exact .inr rfl
set_option maxHeartbeats 1000000 in
theorem ChannelChoices_c (x st pr : Int) (hx : I32 x) (hs : 0 ≤ st ∧ st < 256) (_ : 0 ≤ pr ∧ pr < 256) : Con Try.prog f_l30_ChannelChoices [.s (.int .i32 x), .s (.int .u8 st), .s (.int .u8 pr)] [] (.ret (.t (.s (.bool true))) []) := by
  intro K hK
  refine enter fn_l30_ChannelChoices rfl nt_l30_ChannelChoices rfl rfl (fun φ w0 β0 F => ?_)
  refine c_run tt_ok ctNo_ok k_l30_ChannelChoices [100016, 100020, 100067, 100078, 100092] 60 (by kernel_rfl) ?_
  have hI : ∀ n, i32B n = true → I32 n := fun n h => i32B_ok h
  have h1 : st % 3 = 0 ∨ st % 3 = 1 ∨ st % 3 = 2 := by omega
  have h2 : pr % 2 = 0 ∨ pr % 2 = 1 := by omega
  rcases h1 with h1 | h1 | h1 <;> rcases h2 with h2 | h2
  · obtain ⟨M, e1, hl, w1, w2, w3, w4, w5⟩ := choices_first (x := x) (s := -2147483647) (o := false) hx (by decide)
    obtain ⟨M', e2, v1, v2⟩ := choices_second (o := false) hl w2 w3 w5
    replace e1 : outR (runK (-2147483448) 1 3) (((m0.set (-2147483248) x).set (-2147483548) (IntKind.i32.wrap (-2147483348 + IntKind.i32.wrap 0))).set (-2147483360) (-2147483647)) 4 (-2147483548) (-2147483248) = (⟨0, 0, 0, 0, 0, 0, false, false, false, false, -2147483648, -2147483648, -2147483648, -2147483648, -2147483648, -2147483648, 0, 0, 0, 0, false, 0, 0, 0, 0, 0, false, 0⟩, 0, M) := e1
    replace e2 : inR (noK.pass (-2147483348) 0 4) M 4 (-2147483548) (-2147483048) = (⟨0, 0, 0, 4, -2147483348, 0, true, false, false, false, -2147483648, -2147483448, -2147483648, -2147483448, -2147483648, -2147483648, 0, 0, 0, 0, false, 0, 0, 0, 0, 0, false, 0⟩, 0, M') := e2
    replace w2 : M.word (-2147483548) = -2147483447 := w2
    replace w3 : M.word (-2147483460) = -2147483248 := w3
    refine ⟨.t (.s (.int .u8 0)), fun β => (by rw [Int.tmod_eq_emod_of_nonneg hs.1, h1]), rfl, 0, ⟨rfl, by decide, by decide⟩, .int .i32 (-2147483647), rfl, rfl, ?_⟩
    refine ⟨.t (.s (.int .u8 0)), fun β => (by rw [and1_u8, h2]), rfl, m0, ⟨rfl, rfl, rfl, rfl, hI _ (by decide)⟩, m0.set (-2147483248) x, ⟨rfl, rfl, rfl, rfl, hI _ (by decide)⟩, (m0.set (-2147483248) x).set (-2147483548) (IntKind.i32.wrap (-2147483348 + IntKind.i32.wrap 0)), ⟨rfl, rfl, rfl, rfl, hI _ (by decide)⟩, ?_⟩
    generalize (((m0.set (-2147483248) x).set (-2147483548) (IntKind.i32.wrap (-2147483348 + IntKind.i32.wrap 0))).set (-2147483360) (-2147483647)) = M0 at e1 ⊢
    refine ⟨trivial, (M0, ⟨0, 0, 0, 0, 0, 0, false, false, false, false, -2147483648, -2147483648, -2147483648, -2147483648, -2147483648, -2147483648, 0, 0, 0, 0, false, 0, 0, 0, 0, 0, false, 0⟩, 0, M), ⟨rfl, rfl, rfl, rfl, ⟨runK_ok (hI _ (by decide)) (.inr rfl) (hI _ (by decide)), hI _ (by decide), hI _ (by decide), hI _ (by decide)⟩, by dsimp only; exact e1⟩, ?_⟩
    refine ⟨fun _ => ⟨M, ⟨rfl, rfl, rfl, rfl, hI _ (by decide)⟩, ?_⟩, fun h => absurd h (by simp)⟩
    refine ⟨fun _ => ⟨M, ⟨rfl, rfl, rfl, rfl, hI _ (by decide)⟩, ?_⟩, fun h => absurd h (by simp [w1])⟩
    refine ⟨fun _ => ⟨M, ⟨rfl, rfl, rfl, rfl, hI _ (by decide)⟩, ?_⟩, fun h => absurd h (by simp [w1, w2])⟩
    refine ⟨fun _ => ⟨M, ⟨rfl, rfl, rfl, rfl, hI _ (by decide)⟩, ?_⟩, fun h => absurd h (by simp [w1, w2, w3])⟩
    refine ⟨fun h => absurd h (by simp [w1, w2, w3, w4]), fun _ => ?_⟩
    refine ⟨.t (.s (.int .u8 0)), fun β => (by rw [and1_u8, h2]), rfl, .t (.s (.int .u8 0)), fun _ β => (by rw [and1_u8, h2]), rfl, fun h => absurd h (by decide), fun _ => ?_⟩
    refine ⟨.t (.s (.int .u8 0)), fun β => (by rw [and1_u8, h2]), rfl, trivial, (M, ⟨0, 0, 0, 4, -2147483348, 0, true, false, false, false, -2147483648, -2147483448, -2147483648, -2147483448, -2147483648, -2147483648, 0, 0, 0, 0, false, 0, 0, 0, 0, 0, false, 0⟩, 0, M'), ⟨rfl, rfl, rfl, rfl, ⟨pass_ok noK_ok (hI _ (by decide)) (.inl rfl) (hI _ (by decide)), hI _ (by decide), hI _ (by decide), hI _ (by decide)⟩, by dsimp only; exact e2⟩, ?_⟩
    refine ⟨fun _ => ⟨M', ⟨rfl, rfl, rfl, rfl, hI _ (by decide)⟩, ?_⟩, fun h => absurd h (by simp)⟩
    refine ⟨fun _ => ⟨M', ⟨rfl, rfl, rfl, rfl, hI _ (by decide)⟩, ?_⟩, fun h => absurd h (by simp [v1])⟩
    refine ⟨fun _ => trivial, ?_⟩
    refine fin_k tt_ok (rs := rs_l30_ChannelChoices) rfl rfl hK [] (t1b ?_) rfl rfl rfl rfl rfl
    simp [v1, v2, NP]
  · obtain ⟨M, e1, hl, w1, w2, w3, w4, w5⟩ := choices_first (x := x) (s := -2147483647) (o := true) hx (by decide)
    obtain ⟨M', e2, v1, v2⟩ := choices_second (o := true) hl w2 w3 w5
    replace e1 : outR (runK (-2147483448) 1 3) (((m0.set (-2147483248) x).set (-2147483548) (IntKind.i32.wrap (-2147483348 + IntKind.i32.wrap 1))).set (-2147483360) (-2147483647)) 4 (-2147483548) (-2147483248) = (⟨0, 0, 0, 0, 0, 0, false, false, false, false, -2147483648, -2147483648, -2147483648, -2147483648, -2147483648, -2147483648, 0, 0, 0, 0, false, 0, 0, 0, 0, 0, false, 0⟩, 0, M) := e1
    replace e2 : inR (noK.pass (-2147483348) 1 4) M 4 (-2147483548) (-2147483048) = (⟨0, 0, 0, 4, -2147483348, 1, true, false, false, false, -2147483648, -2147483448, -2147483648, -2147483448, -2147483648, -2147483648, 0, 0, 0, 0, false, 0, 0, 0, 0, 0, false, 0⟩, 0, M') := e2
    replace w2 : M.word (-2147483548) = -2147483447 := w2
    replace w3 : M.word (-2147483460) = -2147483248 := w3
    refine ⟨.t (.s (.int .u8 0)), fun β => (by rw [Int.tmod_eq_emod_of_nonneg hs.1, h1]), rfl, 0, ⟨rfl, by decide, by decide⟩, .int .i32 (-2147483647), rfl, rfl, ?_⟩
    refine ⟨.t (.s (.int .u8 1)), fun β => (by rw [and1_u8, h2]), rfl, m0, ⟨rfl, rfl, rfl, rfl, hI _ (by decide)⟩, m0.set (-2147483248) x, ⟨rfl, rfl, rfl, rfl, hI _ (by decide)⟩, (m0.set (-2147483248) x).set (-2147483548) (IntKind.i32.wrap (-2147483348 + IntKind.i32.wrap 1)), ⟨rfl, rfl, rfl, rfl, hI _ (by decide)⟩, ?_⟩
    generalize (((m0.set (-2147483248) x).set (-2147483548) (IntKind.i32.wrap (-2147483348 + IntKind.i32.wrap 1))).set (-2147483360) (-2147483647)) = M0 at e1 ⊢
    refine ⟨trivial, (M0, ⟨0, 0, 0, 0, 0, 0, false, false, false, false, -2147483648, -2147483648, -2147483648, -2147483648, -2147483648, -2147483648, 0, 0, 0, 0, false, 0, 0, 0, 0, 0, false, 0⟩, 0, M), ⟨rfl, rfl, rfl, rfl, ⟨runK_ok (hI _ (by decide)) (.inr rfl) (hI _ (by decide)), hI _ (by decide), hI _ (by decide), hI _ (by decide)⟩, by dsimp only; exact e1⟩, ?_⟩
    refine ⟨fun _ => ⟨M, ⟨rfl, rfl, rfl, rfl, hI _ (by decide)⟩, ?_⟩, fun h => absurd h (by simp)⟩
    refine ⟨fun _ => ⟨M, ⟨rfl, rfl, rfl, rfl, hI _ (by decide)⟩, ?_⟩, fun h => absurd h (by simp [w1])⟩
    refine ⟨fun _ => ⟨M, ⟨rfl, rfl, rfl, rfl, hI _ (by decide)⟩, ?_⟩, fun h => absurd h (by simp [w1, w2])⟩
    refine ⟨fun _ => ⟨M, ⟨rfl, rfl, rfl, rfl, hI _ (by decide)⟩, ?_⟩, fun h => absurd h (by simp [w1, w2, w3])⟩
    refine ⟨fun h => absurd h (by simp [w1, w2, w3, w4]), fun _ => ?_⟩
    refine ⟨.t (.s (.int .u8 1)), fun β => (by rw [and1_u8, h2]), rfl, .t (.s (.int .u8 1)), fun _ β => (by rw [and1_u8, h2]), rfl, fun h => absurd h (by decide), fun _ => ?_⟩
    refine ⟨.t (.s (.int .u8 1)), fun β => (by rw [and1_u8, h2]), rfl, trivial, (M, ⟨0, 0, 0, 4, -2147483348, 1, true, false, false, false, -2147483648, -2147483448, -2147483648, -2147483448, -2147483648, -2147483648, 0, 0, 0, 0, false, 0, 0, 0, 0, 0, false, 0⟩, 0, M'), ⟨rfl, rfl, rfl, rfl, ⟨pass_ok noK_ok (hI _ (by decide)) (.inr rfl) (hI _ (by decide)), hI _ (by decide), hI _ (by decide), hI _ (by decide)⟩, by dsimp only; exact e2⟩, ?_⟩
    refine ⟨fun _ => ⟨M', ⟨rfl, rfl, rfl, rfl, hI _ (by decide)⟩, ?_⟩, fun h => absurd h (by simp)⟩
    refine ⟨fun _ => ⟨M', ⟨rfl, rfl, rfl, rfl, hI _ (by decide)⟩, ?_⟩, fun h => absurd h (by simp [v1])⟩
    refine ⟨fun _ => trivial, ?_⟩
    refine fin_k tt_ok (rs := rs_l30_ChannelChoices) rfl rfl hK [] (t1b ?_) rfl rfl rfl rfl rfl
    simp [v1, v2, NP]
  · obtain ⟨M, e1, hl, w1, w2, w3, w4, w5⟩ := choices_first (x := x) (s := -2147483646) (o := false) hx (by decide)
    obtain ⟨M', e2, v1, v2⟩ := choices_second (o := false) hl w2 w3 w5
    replace e1 : outR (runK (-2147483448) 1 3) (((m0.set (-2147483248) x).set (-2147483548) (IntKind.i32.wrap (-2147483348 + IntKind.i32.wrap 0))).set (-2147483360) (-2147483646)) 4 (-2147483548) (-2147483248) = (⟨0, 0, 0, 0, 0, 0, false, false, false, false, -2147483348, -2147483648, -2147483348, -2147483648, -2147483648, -2147483648, 0, 0, 0, 0, false, 0, 0, 0, 0, 0, false, 0⟩, 0, M) := e1
    replace e2 : inR (noK.pass (-2147483348) 0 4) M 4 (-2147483548) (-2147483048) = (⟨0, 0, 0, 4, -2147483348, 0, true, false, false, false, -2147483648, -2147483448, -2147483648, -2147483448, -2147483648, -2147483648, 0, 0, 0, 0, false, 0, 0, 0, 0, 0, false, 0⟩, 0, M') := e2
    replace w2 : M.word (-2147483548) = -2147483447 := w2
    replace w3 : M.word (-2147483460) = -2147483248 := w3
    refine ⟨.t (.s (.int .u8 1)), fun β => (by rw [Int.tmod_eq_emod_of_nonneg hs.1, h1]), rfl, 1, ⟨rfl, by decide, by decide⟩, .int .i32 (-2147483646), rfl, rfl, ?_⟩
    refine ⟨.t (.s (.int .u8 0)), fun β => (by rw [and1_u8, h2]), rfl, m0, ⟨rfl, rfl, rfl, rfl, hI _ (by decide)⟩, m0.set (-2147483248) x, ⟨rfl, rfl, rfl, rfl, hI _ (by decide)⟩, (m0.set (-2147483248) x).set (-2147483548) (IntKind.i32.wrap (-2147483348 + IntKind.i32.wrap 0)), ⟨rfl, rfl, rfl, rfl, hI _ (by decide)⟩, ?_⟩
    generalize (((m0.set (-2147483248) x).set (-2147483548) (IntKind.i32.wrap (-2147483348 + IntKind.i32.wrap 0))).set (-2147483360) (-2147483646)) = M0 at e1 ⊢
    refine ⟨trivial, (M0, ⟨0, 0, 0, 0, 0, 0, false, false, false, false, -2147483348, -2147483648, -2147483348, -2147483648, -2147483648, -2147483648, 0, 0, 0, 0, false, 0, 0, 0, 0, 0, false, 0⟩, 0, M), ⟨rfl, rfl, rfl, rfl, ⟨runK_ok (hI _ (by decide)) (.inr rfl) (hI _ (by decide)), hI _ (by decide), hI _ (by decide), hI _ (by decide)⟩, by dsimp only; exact e1⟩, ?_⟩
    refine ⟨fun _ => ⟨M, ⟨rfl, rfl, rfl, rfl, hI _ (by decide)⟩, ?_⟩, fun h => absurd h (by simp)⟩
    refine ⟨fun _ => ⟨M, ⟨rfl, rfl, rfl, rfl, hI _ (by decide)⟩, ?_⟩, fun h => absurd h (by simp [w1])⟩
    refine ⟨fun _ => ⟨M, ⟨rfl, rfl, rfl, rfl, hI _ (by decide)⟩, ?_⟩, fun h => absurd h (by simp [w1, w2])⟩
    refine ⟨fun _ => ⟨M, ⟨rfl, rfl, rfl, rfl, hI _ (by decide)⟩, ?_⟩, fun h => absurd h (by simp [w1, w2, w3])⟩
    refine ⟨fun h => absurd h (by simp [w1, w2, w3, w4]), fun _ => ?_⟩
    refine ⟨.t (.s (.int .u8 0)), fun β => (by rw [and1_u8, h2]), rfl, .t (.s (.int .u8 0)), fun _ β => (by rw [and1_u8, h2]), rfl, fun h => absurd h (by decide), fun _ => ?_⟩
    refine ⟨.t (.s (.int .u8 0)), fun β => (by rw [and1_u8, h2]), rfl, trivial, (M, ⟨0, 0, 0, 4, -2147483348, 0, true, false, false, false, -2147483648, -2147483448, -2147483648, -2147483448, -2147483648, -2147483648, 0, 0, 0, 0, false, 0, 0, 0, 0, 0, false, 0⟩, 0, M'), ⟨rfl, rfl, rfl, rfl, ⟨pass_ok noK_ok (hI _ (by decide)) (.inl rfl) (hI _ (by decide)), hI _ (by decide), hI _ (by decide), hI _ (by decide)⟩, by dsimp only; exact e2⟩, ?_⟩
    refine ⟨fun _ => ⟨M', ⟨rfl, rfl, rfl, rfl, hI _ (by decide)⟩, ?_⟩, fun h => absurd h (by simp)⟩
    refine ⟨fun _ => ⟨M', ⟨rfl, rfl, rfl, rfl, hI _ (by decide)⟩, ?_⟩, fun h => absurd h (by simp [v1])⟩
    refine ⟨fun _ => trivial, ?_⟩
    refine fin_k tt_ok (rs := rs_l30_ChannelChoices) rfl rfl hK [] (t1b ?_) rfl rfl rfl rfl rfl
    simp [v1, v2, NP]
  · obtain ⟨M, e1, hl, w1, w2, w3, w4, w5⟩ := choices_first (x := x) (s := -2147483646) (o := true) hx (by decide)
    obtain ⟨M', e2, v1, v2⟩ := choices_second (o := true) hl w2 w3 w5
    replace e1 : outR (runK (-2147483448) 1 3) (((m0.set (-2147483248) x).set (-2147483548) (IntKind.i32.wrap (-2147483348 + IntKind.i32.wrap 1))).set (-2147483360) (-2147483646)) 4 (-2147483548) (-2147483248) = (⟨0, 0, 0, 0, 0, 0, false, false, false, false, -2147483648, -2147483348, -2147483648, -2147483348, -2147483648, -2147483648, 0, 0, 0, 0, false, 0, 0, 0, 0, 0, false, 0⟩, 0, M) := e1
    replace e2 : inR (noK.pass (-2147483348) 1 4) M 4 (-2147483548) (-2147483048) = (⟨0, 0, 0, 4, -2147483348, 1, true, false, false, false, -2147483648, -2147483448, -2147483648, -2147483448, -2147483648, -2147483648, 0, 0, 0, 0, false, 0, 0, 0, 0, 0, false, 0⟩, 0, M') := e2
    replace w2 : M.word (-2147483548) = -2147483447 := w2
    replace w3 : M.word (-2147483460) = -2147483248 := w3
    refine ⟨.t (.s (.int .u8 1)), fun β => (by rw [Int.tmod_eq_emod_of_nonneg hs.1, h1]), rfl, 1, ⟨rfl, by decide, by decide⟩, .int .i32 (-2147483646), rfl, rfl, ?_⟩
    refine ⟨.t (.s (.int .u8 1)), fun β => (by rw [and1_u8, h2]), rfl, m0, ⟨rfl, rfl, rfl, rfl, hI _ (by decide)⟩, m0.set (-2147483248) x, ⟨rfl, rfl, rfl, rfl, hI _ (by decide)⟩, (m0.set (-2147483248) x).set (-2147483548) (IntKind.i32.wrap (-2147483348 + IntKind.i32.wrap 1)), ⟨rfl, rfl, rfl, rfl, hI _ (by decide)⟩, ?_⟩
    generalize (((m0.set (-2147483248) x).set (-2147483548) (IntKind.i32.wrap (-2147483348 + IntKind.i32.wrap 1))).set (-2147483360) (-2147483646)) = M0 at e1 ⊢
    refine ⟨trivial, (M0, ⟨0, 0, 0, 0, 0, 0, false, false, false, false, -2147483648, -2147483348, -2147483648, -2147483348, -2147483648, -2147483648, 0, 0, 0, 0, false, 0, 0, 0, 0, 0, false, 0⟩, 0, M), ⟨rfl, rfl, rfl, rfl, ⟨runK_ok (hI _ (by decide)) (.inr rfl) (hI _ (by decide)), hI _ (by decide), hI _ (by decide), hI _ (by decide)⟩, by dsimp only; exact e1⟩, ?_⟩
    refine ⟨fun _ => ⟨M, ⟨rfl, rfl, rfl, rfl, hI _ (by decide)⟩, ?_⟩, fun h => absurd h (by simp)⟩
    refine ⟨fun _ => ⟨M, ⟨rfl, rfl, rfl, rfl, hI _ (by decide)⟩, ?_⟩, fun h => absurd h (by simp [w1])⟩
    refine ⟨fun _ => ⟨M, ⟨rfl, rfl, rfl, rfl, hI _ (by decide)⟩, ?_⟩, fun h => absurd h (by simp [w1, w2])⟩
    refine ⟨fun _ => ⟨M, ⟨rfl, rfl, rfl, rfl, hI _ (by decide)⟩, ?_⟩, fun h => absurd h (by simp [w1, w2, w3])⟩
    refine ⟨fun h => absurd h (by simp [w1, w2, w3, w4]), fun _ => ?_⟩
    refine ⟨.t (.s (.int .u8 1)), fun β => (by rw [and1_u8, h2]), rfl, .t (.s (.int .u8 1)), fun _ β => (by rw [and1_u8, h2]), rfl, fun h => absurd h (by decide), fun _ => ?_⟩
    refine ⟨.t (.s (.int .u8 1)), fun β => (by rw [and1_u8, h2]), rfl, trivial, (M, ⟨0, 0, 0, 4, -2147483348, 1, true, false, false, false, -2147483648, -2147483448, -2147483648, -2147483448, -2147483648, -2147483648, 0, 0, 0, 0, false, 0, 0, 0, 0, 0, false, 0⟩, 0, M'), ⟨rfl, rfl, rfl, rfl, ⟨pass_ok noK_ok (hI _ (by decide)) (.inr rfl) (hI _ (by decide)), hI _ (by decide), hI _ (by decide), hI _ (by decide)⟩, by dsimp only; exact e2⟩, ?_⟩
    refine ⟨fun _ => ⟨M', ⟨rfl, rfl, rfl, rfl, hI _ (by decide)⟩, ?_⟩, fun h => absurd h (by simp)⟩
    refine ⟨fun _ => ⟨M', ⟨rfl, rfl, rfl, rfl, hI _ (by decide)⟩, ?_⟩, fun h => absurd h (by simp [v1])⟩
    refine ⟨fun _ => trivial, ?_⟩
    refine fin_k tt_ok (rs := rs_l30_ChannelChoices) rfl rfl hK [] (t1b ?_) rfl rfl rfl rfl rfl
    simp [v1, v2, NP]
  · obtain ⟨M, e1, hl, w1, w2, w3, w4, w5⟩ := choices_first (x := x) (s := -2147483645) (o := false) hx (by decide)
    obtain ⟨M', e2, v1, v2⟩ := choices_second (o := false) hl w2 w3 w5
    replace e1 : outR (runK (-2147483448) 1 3) (((m0.set (-2147483248) x).set (-2147483548) (IntKind.i32.wrap (-2147483348 + IntKind.i32.wrap 0))).set (-2147483360) (-2147483645)) 4 (-2147483548) (-2147483248) = (⟨0, 0, 0, 0, 0, 0, false, false, false, false, -2147483648, -2147483648, -2147483648, -2147483648, -2147483648, -2147483648, 0, 0, 0, 0, false, 0, 0, 0, 0, 0, false, 0⟩, 0, M) := e1
    replace e2 : inR (noK.pass (-2147483348) 0 4) M 4 (-2147483548) (-2147483048) = (⟨0, 0, 0, 4, -2147483348, 0, true, false, false, false, -2147483648, -2147483448, -2147483648, -2147483448, -2147483648, -2147483648, 0, 0, 0, 0, false, 0, 0, 0, 0, 0, false, 0⟩, 0, M') := e2
    replace w2 : M.word (-2147483548) = -2147483447 := w2
    replace w3 : M.word (-2147483460) = -2147483248 := w3
    refine ⟨.t (.s (.int .u8 2)), fun β => (by rw [Int.tmod_eq_emod_of_nonneg hs.1, h1]), rfl, 2, ⟨rfl, by decide, by decide⟩, .int .i32 (-2147483645), rfl, rfl, ?_⟩
    refine ⟨.t (.s (.int .u8 0)), fun β => (by rw [and1_u8, h2]), rfl, m0, ⟨rfl, rfl, rfl, rfl, hI _ (by decide)⟩, m0.set (-2147483248) x, ⟨rfl, rfl, rfl, rfl, hI _ (by decide)⟩, (m0.set (-2147483248) x).set (-2147483548) (IntKind.i32.wrap (-2147483348 + IntKind.i32.wrap 0)), ⟨rfl, rfl, rfl, rfl, hI _ (by decide)⟩, ?_⟩
    generalize (((m0.set (-2147483248) x).set (-2147483548) (IntKind.i32.wrap (-2147483348 + IntKind.i32.wrap 0))).set (-2147483360) (-2147483645)) = M0 at e1 ⊢
    refine ⟨trivial, (M0, ⟨0, 0, 0, 0, 0, 0, false, false, false, false, -2147483648, -2147483648, -2147483648, -2147483648, -2147483648, -2147483648, 0, 0, 0, 0, false, 0, 0, 0, 0, 0, false, 0⟩, 0, M), ⟨rfl, rfl, rfl, rfl, ⟨runK_ok (hI _ (by decide)) (.inr rfl) (hI _ (by decide)), hI _ (by decide), hI _ (by decide), hI _ (by decide)⟩, by dsimp only; exact e1⟩, ?_⟩
    refine ⟨fun _ => ⟨M, ⟨rfl, rfl, rfl, rfl, hI _ (by decide)⟩, ?_⟩, fun h => absurd h (by simp)⟩
    refine ⟨fun _ => ⟨M, ⟨rfl, rfl, rfl, rfl, hI _ (by decide)⟩, ?_⟩, fun h => absurd h (by simp [w1])⟩
    refine ⟨fun _ => ⟨M, ⟨rfl, rfl, rfl, rfl, hI _ (by decide)⟩, ?_⟩, fun h => absurd h (by simp [w1, w2])⟩
    refine ⟨fun _ => ⟨M, ⟨rfl, rfl, rfl, rfl, hI _ (by decide)⟩, ?_⟩, fun h => absurd h (by simp [w1, w2, w3])⟩
    refine ⟨fun h => absurd h (by simp [w1, w2, w3, w4]), fun _ => ?_⟩
    refine ⟨.t (.s (.int .u8 0)), fun β => (by rw [and1_u8, h2]), rfl, .t (.s (.int .u8 0)), fun _ β => (by rw [and1_u8, h2]), rfl, fun h => absurd h (by decide), fun _ => ?_⟩
    refine ⟨.t (.s (.int .u8 0)), fun β => (by rw [and1_u8, h2]), rfl, trivial, (M, ⟨0, 0, 0, 4, -2147483348, 0, true, false, false, false, -2147483648, -2147483448, -2147483648, -2147483448, -2147483648, -2147483648, 0, 0, 0, 0, false, 0, 0, 0, 0, 0, false, 0⟩, 0, M'), ⟨rfl, rfl, rfl, rfl, ⟨pass_ok noK_ok (hI _ (by decide)) (.inl rfl) (hI _ (by decide)), hI _ (by decide), hI _ (by decide), hI _ (by decide)⟩, by dsimp only; exact e2⟩, ?_⟩
    refine ⟨fun _ => ⟨M', ⟨rfl, rfl, rfl, rfl, hI _ (by decide)⟩, ?_⟩, fun h => absurd h (by simp)⟩
    refine ⟨fun _ => ⟨M', ⟨rfl, rfl, rfl, rfl, hI _ (by decide)⟩, ?_⟩, fun h => absurd h (by simp [v1])⟩
    refine ⟨fun _ => trivial, ?_⟩
    refine fin_k tt_ok (rs := rs_l30_ChannelChoices) rfl rfl hK [] (t1b ?_) rfl rfl rfl rfl rfl
    simp [v1, v2, NP]
  · obtain ⟨M, e1, hl, w1, w2, w3, w4, w5⟩ := choices_first (x := x) (s := -2147483645) (o := true) hx (by decide)
    obtain ⟨M', e2, v1, v2⟩ := choices_second (o := true) hl w2 w3 w5
    replace e1 : outR (runK (-2147483448) 1 3) (((m0.set (-2147483248) x).set (-2147483548) (IntKind.i32.wrap (-2147483348 + IntKind.i32.wrap 1))).set (-2147483360) (-2147483645)) 4 (-2147483548) (-2147483248) = (⟨0, 0, 0, 0, 0, 0, false, false, false, false, -2147483648, -2147483648, -2147483648, -2147483648, -2147483648, -2147483648, 0, 0, 0, 0, false, 0, 0, 0, 0, 0, false, 0⟩, 0, M) := e1
    replace e2 : inR (noK.pass (-2147483348) 1 4) M 4 (-2147483548) (-2147483048) = (⟨0, 0, 0, 4, -2147483348, 1, true, false, false, false, -2147483648, -2147483448, -2147483648, -2147483448, -2147483648, -2147483648, 0, 0, 0, 0, false, 0, 0, 0, 0, 0, false, 0⟩, 0, M') := e2
    replace w2 : M.word (-2147483548) = -2147483447 := w2
    replace w3 : M.word (-2147483460) = -2147483248 := w3
    refine ⟨.t (.s (.int .u8 2)), fun β => (by rw [Int.tmod_eq_emod_of_nonneg hs.1, h1]), rfl, 2, ⟨rfl, by decide, by decide⟩, .int .i32 (-2147483645), rfl, rfl, ?_⟩
    refine ⟨.t (.s (.int .u8 1)), fun β => (by rw [and1_u8, h2]), rfl, m0, ⟨rfl, rfl, rfl, rfl, hI _ (by decide)⟩, m0.set (-2147483248) x, ⟨rfl, rfl, rfl, rfl, hI _ (by decide)⟩, (m0.set (-2147483248) x).set (-2147483548) (IntKind.i32.wrap (-2147483348 + IntKind.i32.wrap 1)), ⟨rfl, rfl, rfl, rfl, hI _ (by decide)⟩, ?_⟩
    generalize (((m0.set (-2147483248) x).set (-2147483548) (IntKind.i32.wrap (-2147483348 + IntKind.i32.wrap 1))).set (-2147483360) (-2147483645)) = M0 at e1 ⊢
    refine ⟨trivial, (M0, ⟨0, 0, 0, 0, 0, 0, false, false, false, false, -2147483648, -2147483648, -2147483648, -2147483648, -2147483648, -2147483648, 0, 0, 0, 0, false, 0, 0, 0, 0, 0, false, 0⟩, 0, M), ⟨rfl, rfl, rfl, rfl, ⟨runK_ok (hI _ (by decide)) (.inr rfl) (hI _ (by decide)), hI _ (by decide), hI _ (by decide), hI _ (by decide)⟩, by dsimp only; exact e1⟩, ?_⟩
    refine ⟨fun _ => ⟨M, ⟨rfl, rfl, rfl, rfl, hI _ (by decide)⟩, ?_⟩, fun h => absurd h (by simp)⟩
    refine ⟨fun _ => ⟨M, ⟨rfl, rfl, rfl, rfl, hI _ (by decide)⟩, ?_⟩, fun h => absurd h (by simp [w1])⟩
    refine ⟨fun _ => ⟨M, ⟨rfl, rfl, rfl, rfl, hI _ (by decide)⟩, ?_⟩, fun h => absurd h (by simp [w1, w2])⟩
    refine ⟨fun _ => ⟨M, ⟨rfl, rfl, rfl, rfl, hI _ (by decide)⟩, ?_⟩, fun h => absurd h (by simp [w1, w2, w3])⟩
    refine ⟨fun h => absurd h (by simp [w1, w2, w3, w4]), fun _ => ?_⟩
    refine ⟨.t (.s (.int .u8 1)), fun β => (by rw [and1_u8, h2]), rfl, .t (.s (.int .u8 1)), fun _ β => (by rw [and1_u8, h2]), rfl, fun h => absurd h (by decide), fun _ => ?_⟩
    refine ⟨.t (.s (.int .u8 1)), fun β => (by rw [and1_u8, h2]), rfl, trivial, (M, ⟨0, 0, 0, 4, -2147483348, 1, true, false, false, false, -2147483648, -2147483448, -2147483648, -2147483448, -2147483648, -2147483648, 0, 0, 0, 0, false, 0, 0, 0, 0, 0, false, 0⟩, 0, M'), ⟨rfl, rfl, rfl, rfl, ⟨pass_ok noK_ok (hI _ (by decide)) (.inr rfl) (hI _ (by decide)), hI _ (by decide), hI _ (by decide), hI _ (by decide)⟩, by dsimp only; exact e2⟩, ?_⟩
    refine ⟨fun _ => ⟨M', ⟨rfl, rfl, rfl, rfl, hI _ (by decide)⟩, ?_⟩, fun h => absurd h (by simp)⟩
    refine ⟨fun _ => ⟨M', ⟨rfl, rfl, rfl, rfl, hI _ (by decide)⟩, ?_⟩, fun h => absurd h (by simp [v1])⟩
    refine ⟨fun _ => trivial, ?_⟩
    refine fin_k tt_ok (rs := rs_l30_ChannelChoices) rfl rfl hK [] (t1b ?_) rfl rfl rfl rfl rfl
    simp [v1, v2, NP]
end Go.Proofs
