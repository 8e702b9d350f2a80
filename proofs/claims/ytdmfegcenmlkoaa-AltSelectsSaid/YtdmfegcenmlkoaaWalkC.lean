/- AltSelects: the plain law, step by step. -/
import Derived.Test.YtdmfegcenmlkoaaWalkB
import Derived.Test.YtdmfegcenmlkoaaSxC

namespace Go.Proofs
open Go Go.Sx
set_option maxRecDepth 10000
/-- An address of a word of a memory of 1024 bytes. -/
def inA (a : Int) : Prop := a % 4 = 0 ∧ -2147483648 ≤ a ∧ a < -2147482624
theorem inA_bad {m : Ram} {a : Int} (hl : m.l.length = 1024) (ha : inA a) : wBad m a = false := by
  unfold inA at ha
  unfold wBad spanBad ofAt wAt
  rw [hl, show decide (a - a % 4 + 2147483648 ≥ ((1024 : Nat) : Int)) = false by simp; omega]
  simp; omega
theorem inA_i32 {a : Int} (ha : inA a) : I32 a := by unfold inA at ha; unfold I32; omega
theorem word_set {m : Ram} {a b v : Int} (hl : m.l.length = 1024) (ha : inA a) (hb : inA b) (hv : I32 v) : (m.set a v).word b = if a = b then v else m.word b := by
  have h1 := inA_bad hl ha
  have h2 := inA_bad hl hb
  have hA := wBad_nat h1
  have hB := wBad_nat h2
  unfold Ram.word
  rw [set_wBad, h2, set_ok h1]
  simp only [cond_false]
  split
  · rename_i e; subst e; exact getW_setW hA hv
  · rename_i hne
    unfold inA at ha hb
    unfold ofAt wAt at *
    unfold getW setW
    rw [stW_get hA 4 (by decide), stW_get hA 4 (by decide), stW_get hA 4 (by decide), stW_get hA 4 (by decide)]
    rw [if_neg (by omega), if_neg (by omega), if_neg (by omega), if_neg (by omega)]
structure Grd where
  t : Bool
  c : Bool
  w : Int
def Grd.vs : Grd → List Value
  | ⟨t, c, w⟩ => [.bool t, .bool c, .int .u8 w]
def Grd.k (g : Grd) : Int := IntKind.i32.wrap (g.w.tmod 8)
/-- Is a process waiting at channel k. -/
def tkB (tk k : Int) : Bool := bits .and .u8 (tk.fdiv (2 ^ min k.toNat IntKind.u8.bits)) 1 == 1
def chA (k : Int) : Int := IntKind.i32.wrap (-2147483448 + IntKind.i32.wrap (4 * k))
def prA (k : Int) : Int := IntKind.i32.wrap (-2147483136 + IntKind.i32.wrap (64 * k))
def chW (tk : Int) (e : Int → Bool) (k : Int) : Int := bif tkB tk k then prA k else bif e k then -2147483519 else -2147483648
theorem chA_eq {k : Int} (h0 : 0 ≤ k) (h8 : k < 8) : chA k = -2147483448 + 4 * k := by unfold chA; rw [IntKind.wrap_i32, IntKind.wrap_i32]; omega
theorem prA_eq {k : Int} (h0 : 0 ≤ k) (h8 : k < 8) : prA k = -2147483136 + 64 * k := by unfold prA; rw [IntKind.wrap_i32, IntKind.wrap_i32]; omega
theorem chA_in {k : Int} (h0 : 0 ≤ k) (h8 : k < 8) : inA (chA k) := by rw [chA_eq h0 h8]; unfold inA; omega
theorem chW_i32 (tk : Int) (e : Int → Bool) {k : Int} (h0 : 0 ≤ k) (h8 : k < 8) : I32 (chW tk e k) := by
  unfold chW; rw [prA_eq h0 h8]
  cases tkB tk k
  · cases e k
    · simp only [cond_false]; exact i32B_ok (by decide)
    · simp only [cond_false, cond_true]; exact i32B_ok (by decide)
  · simp only [cond_true]; unfold I32; omega
theorem sA_in : inA (-2147483532) := by unfold inA; decide
theorem wA_in : inA (-2147483520) := by unfold inA; decide
theorem iA_in : inA (-2147483524) := by unfold inA; decide
theorem Grd.k_range {g : Grd} (h : 0 ≤ g.w ∧ g.w < 256) : 0 ≤ g.k ∧ g.k < 8 := by
  unfold Grd.k; rw [Int.tmod_eq_emod_of_nonneg h.1, IntKind.wrap_i32]; omega
/-- Is a guard ready. -/
def Grd.rdy (tk : Int) (g : Grd) : Bool := bif g.t then (bif g.c then tkB tk g.k else true) else false
/-- Has a guard the channel enabled. -/
def Grd.en (tk : Int) (k : Int) (g : Grd) : Bool := bif g.t then (bif g.c then (bif tkB tk g.k then false else k == g.k) else false) else false
def anyP (tk : Int) (l : List Grd) (i : Nat) : Bool := (l.take i).any (·.rdy tk)
def enP (tk : Int) (l : List Grd) (i : Nat) (k : Int) : Bool := (l.take i).any (·.en tk k)
theorem take_succ {α : Type} {l : List α} {i : Nat} {g : α} (h : l[i]? = some g) : l.take (i + 1) = l.take i ++ [g] := by
  rw [List.take_add_one, h]; rfl
theorem anyP_succ {tk : Int} {l : List Grd} {i : Nat} {g : Grd} (h : l[i]? = some g) : anyP tk l (i + 1) = (anyP tk l i || g.rdy tk) := by
  unfold anyP; rw [take_succ h, List.any_append]; simp
theorem enP_succ {tk : Int} {l : List Grd} {i : Nat} {g : Grd} (h : l[i]? = some g) (k : Int) : enP tk l (i + 1) k = (enP tk l i k || g.en tk k) := by
  unfold enP; rw [take_succ h, List.any_append]; simp
/-- What is known while guards are enabled. -/
structure InvE (tk : Int) (l : List Grd) (i : Nat) (m : Ram) : Prop where
  len : m.l.length = 1024
  ch : ∀ k, 0 ≤ k → k < 8 → m.word (chA k) = chW tk (enP tk l i) k
  st : m.word (-2147483532) = bif anyP tk l i then -2147483645 else -2147483647
theorem err0 {m : Ram} {a : Int} (h : wBad m a = false) : m.err a = 0 := by simp [Ram.err, h]
theorem goR {k : Core} (m : Ram) {fn o : Int} (h1 : (k.pri.fdiv 2 != 0) = false) (h2 : mineB fn o = true) (h3 : k.busy = true) (h4 : linkedB k o = false) : execR k m fn o = finR (opM k m o) := by
  simp [execR, h1, h2, h3, h4]
def rdA (a b c : Int) : Core := ⟨a, b, c, -2147483048, -2147483520, 1, true, false, false, false, 0, 0, 0, 0, 0, 0, 0, 0, 0, 0, false, 0, 0, 0, 0, 0, false, 0⟩
theorem rdA_abc (a b c : Int) : rdK.abc a b c = rdA a b c := rfl
theorem rd_goR (m : Ram) (a b c o : Int) (h2 : mineB 15 o = true) (h4 : linkedB (rdA a b c) o = false) : execR (rdA a b c) m 15 o = finR (opM (rdA a b c) m o) := goR m (show ((1 : Int).fdiv 2 != 0) = false by decide) h2 rfl h4
theorem st_ok (k : Core) {m : Ram} {a : Int} (v : Int) (h : wBad m a = false) : stR k m a v = (k, 0, m.set a v) := by simp [stR, h]
theorem en_step {tk : Int} {l : List Grd} {i : Nat} {m : Ram} {g : Grd} (hI : InvE tk l i m) (hg : l[i]? = some g) (hw : 0 ≤ g.w ∧ g.w < 256) :
    ∃ m', execR (rdA (bif g.t then -5 else 0) (bif g.c then chA g.k else 88) 77) m 15 (bif g.c then 72 else 73) = (rdA (bif g.t then -5 else 0) (bif g.c then 77 else 88) 77, 0, m') ∧ InvE tk l (i + 1) m' := by
  obtain ⟨hlen, hch, hst⟩ := hI
  have hk := Grd.k_range hw
  have hbs := inA_bad hlen sA_in
  have hbc := inA_bad hlen (chA_in hk.1 hk.2)
  have ha := anyP_succ (tk := tk) hg
  have he := enP_succ (tk := tk) hg
  have hready : (m.set (-2147483532) (-2147483645)).l.length = 1024 := by rw [set_len]; exact hlen
  have chS : ∀ v, I32 v → ∀ k, 0 ≤ k → k < 8 → (m.set (-2147483532) v).word (chA k) = m.word (chA k) := fun v hv k h0 h8 => by
    rw [word_set hlen sA_in (chA_in h0 h8) hv, if_neg (by rw [chA_eq h0 h8]; omega)]
  obtain ⟨t, c, w⟩ := g
  cases t with
  | false =>
    have hr : (Grd.rdy tk ⟨false, c, w⟩) = false := rfl
    have hn : ∀ k, (Grd.en tk k ⟨false, c, w⟩) = false := fun k => rfl
    refine ⟨m, ?_, hlen, fun k h0 h8 => ?_, ?_⟩
    · cases c with
      | false => exact (exec_false (rdA 0 88 77) m (by decide) rfl).1 rfl
      | true => exact (exec_false (rdA 0 (chA (Grd.k ⟨false, true, w⟩)) 77) m (by simp [rdA]) rfl).2.1 rfl
    · rw [hch k h0 h8]
      unfold chW
      rw [he k, hn k, Bool.or_false]
    · rw [hst, ha, hr, Bool.or_false]
  | true =>
    cases c with
    | false =>
      have hr : (Grd.rdy tk ⟨true, false, w⟩) = true := rfl
      have hn : ∀ k, (Grd.en tk k ⟨true, false, w⟩) = false := fun k => rfl
      refine ⟨m.set (-2147483532) (-2147483645), ?_, hready, fun k h0 h8 => ?_, ?_⟩
      · rw [show (bif (Grd.mk true false w).t then (-5 : Int) else 0) = -5 from rfl, show (bif (Grd.mk true false w).c then (72 : Int) else 73) = 73 from rfl]
        rw [rd_goR m _ _ _ _ (by decide) (by unfold linkedB; simp)]
        rw [show opM (rdA (-5) (bif (Grd.mk true false w).c then chA (Grd.mk true false w).k else 88) 77) m 73 = Mach.enbs ⟨rdA (-5) 88 77, 0, m⟩ from rfl, ex_enbs]
        rw [show ((rdA (-5) 88 77).a != 0) = true by decide, cond_true]
        exact st_ok (rdA (-5) 88 77) _ hbs
      · rw [chS _ (i32B_ok (by decide)) k h0 h8, hch k h0 h8]
        unfold chW
        rw [he k, hn k, Bool.or_false]
      · rw [word_set hlen sA_in sA_in (i32B_ok (by decide)), if_pos rfl, ha, hr, Bool.or_true]; rfl
    | true =>
      have hr : (Grd.rdy tk ⟨true, true, w⟩) = tkB tk (Grd.k ⟨true, true, w⟩) := rfl
      have hn : ∀ k, (Grd.en tk k ⟨true, true, w⟩) = (bif tkB tk (Grd.k ⟨true, true, w⟩) then false else k == Grd.k ⟨true, true, w⟩) := fun k => rfl
      generalize hkk : Grd.k ⟨true, true, w⟩ = kk at *
      have hlk : linkedB (rdA (-5) (chA kk) 77) 72 = false := by
        have h3 : decide (chA kk < -2147483616) = false := by rw [chA_eq hk.1 hk.2]; simp; omega
        show (bif bif bif (72 : Int) == 72 then (-5 : Int) != 0 else false then decide (chA kk < -2147483616) else false then true else _) = false
        rw [h3]; rfl
      have hgo : execR (rdA (-5) (chA kk) 77) m 15 72 = enR (rdA (-5) (chA kk) 77) m := by
        rw [rd_goR m _ _ _ _ (by decide) hlk, show opM (rdA (-5) (chA kk) 77) m 72 = Mach.enbc ⟨rdA (-5) (chA kk) 77, 0, m⟩ from rfl, ex_enbc]
        rw [show ((rdA (-5) (chA kk) 77).a != 0) = true by simp [rdA], cond_true]
      have hen : enR (rdA (-5) (chA kk) 77) m = bif m.word (chA kk) == -2147483648 then (rdA (-5) 77 77, 0, m.set (chA kk) (-2147483519))
          else bif m.word (chA kk) == -2147483519 then (rdA (-5) 77 77, 0, m) else (rdA (-5) 77 77, 0, m.set (-2147483532) (-2147483645)) := by
        have e1 : ownAt (rdA (-5) (chA kk) 77).wptr (rdA (-5) (chA kk) 77).pri = -2147483519 := by show ownAt (-2147483520) 1 = _; decide
        have e2 : stAt (rdA (-5) (chA kk) 77).wptr = -2147483532 := by show stAt (-2147483520) = _; decide
        unfold enR
        rw [show (rdA (-5) (chA kk) 77).b = chA kk from rfl, hbc, e1, e2, st_ok _ _ hbc, st_ok _ _ hbs]
        rfl
      have hcw := hch kk hk.1 hk.2
      show ∃ m', execR (rdA (-5) (chA kk) 77) m 15 72 = (rdA (-5) 77 77, 0, m') ∧ _
      rw [hgo, hen, hcw]
      unfold chW
      cases htk : tkB tk kk with
      | true =>
        have hp : (prA kk == -2147483648) = false := by rw [prA_eq hk.1 hk.2]; simp; omega
        have hp2 : (prA kk == -2147483519) = false := by rw [prA_eq hk.1 hk.2]; simp; omega
        simp only [cond_true, hp, hp2, cond_false]
        refine ⟨_, rfl, hready, fun k h0 h8 => ?_, ?_⟩
        · rw [chS _ (i32B_ok (by decide)) k h0 h8, hch k h0 h8]
          unfold chW
          rw [he k, hn k, htk, cond_true, Bool.or_false]
        · rw [word_set hlen sA_in sA_in (i32B_ok (by decide)), if_pos rfl, ha, hr, htk, Bool.or_true]; rfl
      | false =>
        cases hek : enP tk l i kk with
        | true =>
          simp only [cond_true, cond_false, show ((-2147483519 : Int) == -2147483648) = false by decide, show ((-2147483519 : Int) == -2147483519) = true by decide]
          refine ⟨_, rfl, hlen, fun k h0 h8 => ?_, ?_⟩
          · rw [hch k h0 h8]
            unfold chW
            rw [he k, hn k, htk, cond_false]
            cases hkq : k == kk with
            | false => rw [Bool.or_false]
            | true =>
              have : k = kk := by simpa using hkq
              subst this
              rw [hek]; rfl
          · rw [hst, ha, hr, htk, Bool.or_false]
        | false =>
          simp only [cond_false, show ((-2147483648 : Int) == -2147483648) = true by decide, cond_true]
          refine ⟨_, rfl, by rw [set_len]; exact hlen, fun k h0 h8 => ?_, ?_⟩
          · rw [word_set hlen (chA_in hk.1 hk.2) (chA_in h0 h8) (i32B_ok (by decide))]
            unfold chW
            rw [he k, hn k, htk, cond_false]
            by_cases hkq : k = kk
            · subst hkq
              rw [if_pos rfl, htk, show (k == k) = true by simp, Bool.or_true]; rfl
            · rw [if_neg (by rw [chA_eq h0 h8, chA_eq hk.1 hk.2]; omega), hch k h0 h8, show (k == kk) = false by simpa using hkq, Bool.or_false]; rfl
          · rw [word_set hlen (chA_in hk.1 hk.2) sA_in (i32B_ok (by decide)), if_neg (by rw [chA_eq hk.1 hk.2]; omega), hst, ha, hr, htk, Bool.or_false]
end Go.Proofs

namespace Go.Proofs
open Go Go.Sx
set_option maxRecDepth 10000
theorem wait_any {tk : Int} {l : List Grd} {i : Nat} {m : Ram} (hI : InvE tk l i m) (ha : anyP tk l i = true) : execR (rdA 0 0 0) m 15 68 = (rdA 0 0 0, 0, m.set (-2147483520) (-1)) := by
  have hbs := inA_bad hI.len sA_in
  have hbw := inA_bad hI.len wA_in
  rw [rd_goR m _ _ _ _ (by decide) (by decide), show opM (rdA 0 0 0) m 68 = Mach.altwt ⟨rdA 0 0 0, 0, m⟩ from rfl, ex_altwt _ _ (show I32 (-2147483520) from i32B_ok (by decide))]
  have e2 : stAt (rdA 0 0 0).wptr = -2147483532 := by show stAt (-2147483520) = _; decide
  have hs := hI.st
  rw [ha] at hs
  unfold wtR
  rw [e2, err0 hbs, show (rdA 0 0 0).wptr = -2147483520 from rfl, err0 hbw, hs]
  rfl
theorem wait_none {tk : Int} {l : List Grd} {i : Nat} {m : Ram} (hI : InvE tk l i m) (ha : anyP tk l i = false) : ∃ m', execR (rdA 0 0 0) m 15 68 = ((rdA 0 0 0).nobody, 0, m') ∧
    m'.word (-2147483520) = -1 ∧ m'.word (-2147483532) = -2147483646 ∧ m'.word (-2147483524) = -2147483048 := by
  have hbs := inA_bad hI.len sA_in
  have hbw := inA_bad hI.len wA_in
  rw [rd_goR m _ _ _ _ (by decide) (by decide), show opM (rdA 0 0 0) m 68 = Mach.altwt ⟨rdA 0 0 0, 0, m⟩ from rfl, ex_altwt _ _ (show I32 (-2147483520) from i32B_ok (by decide))]
  have e2 : stAt (rdA 0 0 0).wptr = -2147483532 := by show stAt (-2147483520) = _; decide
  have hs := hI.st
  rw [ha] at hs
  have hl1 : (m.set (-2147483520) (-1)).l.length = 1024 := by rw [set_len]; exact hI.len
  have hl2 : ((m.set (-2147483520) (-1)).set (-2147483532) (-2147483646)).l.length = 1024 := by rw [set_len]; exact hl1
  have hwt : wtM (rdA 0 0 0) m = (m.set (-2147483520) (-1)).set (-2147483532) (-2147483646) := by unfold wtM; rw [e2]; rfl
  have hv : validB ((m.set (-2147483520) (-1)).set (-2147483532) (-2147483646)) (-2147483520) = true := by
    unfold validB ofAt; rw [hl2]; decide
  have hwa : waR (rdA 0 0 0) (wtM (rdA 0 0 0) m) = ((rdA 0 0 0).nobody, 0, ((m.set (-2147483520) (-1)).set (-2147483532) (-2147483646)).set (-2147483524) (-2147483048)) := by
    rw [hwt]
    unfold waR
    rw [show (rdA 0 0 0).wptr = -2147483520 from rfl, hv]
    rfl
  have i1 : I32 (-1) := i32B_ok (by decide)
  have i2 : I32 (-2147483646) := i32B_ok (by decide)
  have i3 : I32 (-2147483048) := i32B_ok (by decide)
  refine ⟨((m.set (-2147483520) (-1)).set (-2147483532) (-2147483646)).set (-2147483524) (-2147483048), ?_, ?_, ?_, ?_⟩
  · unfold wtR
    rw [e2, err0 hbs, show (rdA 0 0 0).wptr = -2147483520 from rfl, err0 hbw, hs, hwa]
    rfl
  · rw [word_set hl2 iA_in wA_in i3, if_neg (by decide), word_set hl1 sA_in wA_in i2, if_neg (by decide), word_set hI.len wA_in wA_in i1, if_pos rfl]
  · rw [word_set hl2 iA_in sA_in i3, if_neg (by decide), word_set hl1 sA_in sA_in i2, if_pos rfl]
  · rw [word_set hl2 iA_in iA_in i3, if_pos rfl]
/-- Which channels are still enabled. -/
def leftP (tk : Int) (l : List Grd) (i : Nat) (k : Int) : Bool := enP tk l l.length k && !enP tk l i k
/-- What is known while guards are disabled. -/
structure InvD (tk : Int) (l : List Grd) (i : Nat) (m : Ram) : Prop where
  len : m.l.length = 1024
  ch : ∀ k, 0 ≤ k → k < 8 → m.word (chA k) = chW tk (leftP tk l i) k
  w0 : anyP tk l i = false → m.word (-2147483520) = -1
  w1 : anyP tk l i = true → 10 ≤ m.word (-2147483520) ∧ m.word (-2147483520) ≤ 29
theorem dis_init {tk : Int} {l : List Grd} {m : Ram} (hI : InvE tk l l.length m) : InvD tk l 0 (m.set (-2147483520) (-1)) := by
  have i1 : I32 (-1) := i32B_ok (by decide)
  refine ⟨by rw [set_len]; exact hI.len, fun k h0 h8 => ?_, fun _ => ?_, fun h => ?_⟩
  · rw [word_set hI.len wA_in (chA_in h0 h8) i1, if_neg (by rw [chA_eq h0 h8]; omega), hI.ch k h0 h8]
    unfold chW leftP
    rw [show enP tk l 0 k = false from rfl, Bool.not_false, Bool.and_true]
  · rw [word_set hI.len wA_in wA_in i1, if_pos rfl]
  · rw [show anyP tk l 0 = false from rfl] at h; cases h
theorem dis_done {tk : Int} {l : List Grd} {m : Ram} (hI : InvD tk l l.length m) {k : Int} (h0 : 0 ≤ k) (h8 : k < 8) : m.word (chA k) = bif tkB tk k then prA k else -2147483648 := by
  rw [hI.ch k h0 h8]
  unfold chW leftP
  cases enP tk l l.length k <;> rfl
theorem ch_step {tk : Int} {l : List Grd} {i : Nat} {m : Ram} (hI : InvD tk l i m) : chR (rdA (10 + (i : Int)) 0 0) m = bif anyP tk l i then (rdA 0 0 0, 0, m) else (rdA 1 0 0, 0, m.set (-2147483520) (10 + (i : Int))) := by
  have hbw := inA_bad hI.len wA_in
  unfold chR
  rw [show (rdA (10 + (i : Int)) 0 0).wptr = -2147483520 from rfl, hbw]
  cases ha : anyP tk l i with
  | true =>
    have := hI.w1 ha
    have hne : (m.word (-2147483520) != -1) = true := by simp; omega
    rw [hne]; rfl
  | false =>
    rw [hI.w0 ha, st_ok _ _ hbw]
    rfl
theorem dis_step {tk : Int} {l : List Grd} {i : Nat} {m : Ram} {g : Grd} (hI : InvD tk l i m) (hg : l[i]? = some g) (hw : 0 ≤ g.w ∧ g.w < 256) (hi : i < 20) :
    ∃ m', execR (rdA (10 + (i : Int)) (bif g.t then 1 else 0) (bif g.c then chA g.k else 0)) m 15 (bif g.c then 47 else 48) = (rdA (bif g.rdy tk && !anyP tk l i then 1 else 0) 0 0, 0, m') ∧ InvD tk l (i + 1) m' ∧
      ((g.rdy tk && !anyP tk l i) = true → m'.word (-2147483520) = 10 + (i : Int)) := by
  have hk := Grd.k_range hw
  have hbw := inA_bad hI.len wA_in
  have hbc := inA_bad hI.len (chA_in hk.1 hk.2)
  have ha := anyP_succ (tk := tk) hg
  have he := enP_succ (tk := tk) hg
  have hi10 : I32 (10 + (i : Int)) := by unfold I32; omega
  have hcs := ch_step hI
  -- nothing changes
  have same : g.rdy tk = false → (∀ k, 0 ≤ k → k < 8 → leftP tk l (i + 1) k = leftP tk l i k) → InvD tk l (i + 1) m := fun hr hl => by
    rw [hr, Bool.or_false] at ha
    exact ⟨hI.len, fun k h0 h8 => by rw [hI.ch k h0 h8]; unfold chW; rw [hl k h0 h8], fun h => hI.w0 (ha ▸ h), fun h => hI.w1 (ha ▸ h)⟩
  -- a choice
  have choose : g.rdy tk = true → (∀ k, g.en tk k = false) → ∃ m', chR (rdA (10 + (i : Int)) 0 0) m = (rdA (bif g.rdy tk && !anyP tk l i then 1 else 0) 0 0, 0, m') ∧ InvD tk l (i + 1) m' ∧ ((g.rdy tk && !anyP tk l i) = true → m'.word (-2147483520) = 10 + (i : Int)) := fun hr hn => by
    have hl : ∀ k, leftP tk l (i + 1) k = leftP tk l i k := fun k => by unfold leftP; rw [he k, hn k, Bool.or_false]
    rw [hcs]
    rw [hr, Bool.or_true] at ha
    cases hA : anyP tk l i with
    | true =>
      refine ⟨m, by rw [hr]; rfl, ⟨hI.len, fun k h0 h8 => by rw [hI.ch k h0 h8]; unfold chW; rw [hl k], fun h => ?_, fun _ => hI.w1 hA⟩, fun h => by simp at h⟩
      rw [ha] at h; cases h
    | false =>
      refine ⟨m.set (-2147483520) (10 + (i : Int)), by rw [hr]; rfl, ⟨by rw [set_len]; exact hI.len, fun k h0 h8 => ?_, fun h => ?_, fun _ => ?_⟩, fun _ => ?_⟩
      · rw [word_set hI.len wA_in (chA_in h0 h8) hi10, if_neg (by rw [chA_eq h0 h8]; omega), hI.ch k h0 h8]; unfold chW; rw [hl k]
      · rw [ha] at h; cases h
      · rw [word_set hI.len wA_in wA_in hi10, if_pos rfl]; omega
      · rw [word_set hI.len wA_in wA_in hi10, if_pos rfl]
  obtain ⟨t, c, w⟩ := g
  cases t with
  | false =>
    have hr : (Grd.rdy tk ⟨false, c, w⟩) = false := rfl
    have hn : ∀ k, (Grd.en tk k ⟨false, c, w⟩) = false := fun k => rfl
    refine ⟨m, ?_, same hr (fun k _ _ => by unfold leftP; rw [he k, hn k, Bool.or_false]), fun h => by rw [hr] at h; cases h⟩
    rw [hr]
    cases c with
    | false => exact (exec_false (rdA (10 + (i : Int)) 0 0) m (by show ((1 : Int).fdiv 2 != 0) = false; decide) rfl).2.2.2 rfl
    | true => exact (exec_false (rdA (10 + (i : Int)) 0 (chA (Grd.k ⟨false, true, w⟩))) m (by show ((1 : Int).fdiv 2 != 0) = false; decide) rfl).2.2.1 rfl
  | true =>
    cases c with
    | false =>
      have h1 : execR (rdA (10 + (i : Int)) 1 0) m 15 48 = chR (rdA (10 + (i : Int)) 0 0) m := by
        rw [rd_goR m _ _ _ _ (by decide) (by unfold linkedB; simp), show opM (rdA (10 + (i : Int)) 1 0) m 48 = Mach.diss ⟨rdA (10 + (i : Int)) 1 0, 0, m⟩ from rfl, ex_diss]
        rfl
      show ∃ m', execR (rdA (10 + (i : Int)) 1 0) m 15 48 = _ ∧ _
      rw [h1]
      exact choose rfl (fun k => rfl)
    | true =>
      have hr : (Grd.rdy tk ⟨true, true, w⟩) = tkB tk (Grd.k ⟨true, true, w⟩) := rfl
      have hn : ∀ k, (Grd.en tk k ⟨true, true, w⟩) = (bif tkB tk (Grd.k ⟨true, true, w⟩) then false else k == Grd.k ⟨true, true, w⟩) := fun k => rfl
      show ∃ m', execR (rdA (10 + (i : Int)) 1 (chA (Grd.k ⟨true, true, w⟩))) m 15 47 = _ ∧ _
      generalize hkk : Grd.k ⟨true, true, w⟩ = kk at *
      have hlk : linkedB (rdA (10 + (i : Int)) 1 (chA kk)) 47 = false := by
        have h3 : decide (chA kk < -2147483616) = false := by rw [chA_eq hk.1 hk.2]; simp; omega
        show (bif _ then true else bif bif (47 : Int) == 47 then (1 : Int) != 0 else false then decide (chA kk < -2147483616) else false) = false
        rw [h3]; rfl
      have h1 : execR (rdA (10 + (i : Int)) 1 (chA kk)) m 15 47 = disR (rdA (10 + (i : Int)) 0 0) m (chA kk) := by
        rw [rd_goR m _ _ _ _ (by decide) hlk, show opM (rdA (10 + (i : Int)) 1 (chA kk)) m 47 = Mach.disc ⟨rdA (10 + (i : Int)) 1 (chA kk), 0, m⟩ from rfl, ex_disc]
        rfl
      have hcw := hI.ch kk hk.1 hk.2
      have e1 : ownAt (rdA (10 + (i : Int)) 0 0).wptr (rdA (10 + (i : Int)) 0 0).pri = -2147483519 := by show ownAt (-2147483520) 1 = _; decide
      rw [h1]
      unfold disR
      rw [hbc, e1, hcw, st_ok _ _ hbc]
      unfold chW
      cases htk : tkB tk kk with
      | true =>
        have hp : (prA kk != -2147483648) = true := by rw [prA_eq hk.1 hk.2]; simp; omega
        have hp2 : (prA kk != -2147483519) = true := by rw [prA_eq hk.1 hk.2]; simp; omega
        simp only [cond_true, cond_false, hp, hp2]
        exact choose (by rw [hr, htk]) (fun k => by rw [hn k, htk]; rfl)
      | false =>
        have hrf : (Grd.rdy tk ⟨true, true, w⟩) = false := by rw [hr, htk]
        rw [hrf]
        cases hek : leftP tk l i kk with
        | true =>
          refine ⟨m.set (chA kk) (-2147483648), rfl, ⟨by rw [set_len]; exact hI.len, fun k h0 h8 => ?_, fun h => ?_, fun h => ?_⟩, fun h => by cases h⟩
          · rw [word_set hI.len (chA_in hk.1 hk.2) (chA_in h0 h8) (i32B_ok (by decide))]
            unfold chW leftP
            rw [he k, hn k, htk, cond_false]
            by_cases hkq : k = kk
            · subst hkq
              rw [if_pos rfl, htk, show (k == k) = true by simp, Bool.or_true, Bool.not_true, Bool.and_false]; rfl
            · rw [if_neg (by rw [chA_eq h0 h8, chA_eq hk.1 hk.2]; omega), hI.ch k h0 h8, show (k == kk) = false by simpa using hkq, Bool.or_false]; rfl
          · rw [word_set hI.len (chA_in hk.1 hk.2) wA_in (i32B_ok (by decide)), if_neg (by rw [chA_eq hk.1 hk.2]; omega)]
            exact hI.w0 (by rw [ha, hrf, Bool.or_false] at h; exact h)
          · rw [word_set hI.len (chA_in hk.1 hk.2) wA_in (i32B_ok (by decide)), if_neg (by rw [chA_eq hk.1 hk.2]; omega)]
            exact hI.w1 (by rw [ha, hrf, Bool.or_false] at h; exact h)
        | false =>
          refine ⟨m, rfl, same hrf (fun k h0 h8 => ?_), fun h => by cases h⟩
          unfold leftP at *
          rw [he k, hn k, htk, cond_false]
          cases hkq : k == kk with
          | false => rw [Bool.or_false]
          | true =>
            have : k = kk := by simpa using hkq
            subst this
            rw [hek, Bool.or_true, Bool.not_true, Bool.and_false]
def rdI (x : Int) : Core := { rdA 0 0 0 with iptr := x }
theorem end_step {m : Ram} (hl : m.l.length = 1024) : execR (rdA 0 0 0) m 15 69 = (rdI (IntKind.i32.wrap (-2147483048 + m.word (-2147483520))), 0, m) := by
  have hbw := inA_bad hl wA_in
  rw [rd_goR m _ _ _ _ (by decide) (by decide), show opM (rdA 0 0 0) m 69 = Mach.altend ⟨rdA 0 0 0, 0, m⟩ from rfl, ex_altend]
  rw [show (rdA 0 0 0).wptr = -2147483520 from rfl, hbw]
  rfl
end Go.Proofs

namespace Go.Proofs
open Go Go.Sx
set_option maxRecDepth 10000
def grdV (l : List Grd) : List Value := (l.map Grd.vs).flatten
theorem grd_row {l : List Grd} {i : Nat} {g : Grd} (h : l[i]? = some g) : seg (grdV l) (0 + i * 3) 3 = Grd.vs g := by
  rw [Nat.zero_add]
  induction l generalizing i with
  | nil => simp at h
  | cons x l ih =>
    have hx : (Grd.vs x).length = 3 := rfl
    cases i with
    | zero =>
      simp at h; subst h
      show ((grdV (x :: l)).drop 0).take 3 = _
      rw [List.drop_zero]
      show (Grd.vs x ++ grdV l).take 3 = _
      rw [← hx, List.take_left]
    | succ i =>
      rw [← ih (by simpa using h)]
      show ((Grd.vs x ++ grdV l).drop ((i + 1) * 3)).take 3 = ((grdV l).drop (i * 3)).take 3
      rw [show (i + 1) * 3 = (Grd.vs x).length + i * 3 by rw [hx]; omega, ← List.drop_drop, List.drop_left]
theorem grdV_length (l : List Grd) : (grdV l).length = 3 * l.length := by
  induction l with
  | nil => rfl
  | cons x l ih =>
    show (Grd.vs x ++ grdV l).length = _
    rw [List.length_append, ih, show (Grd.vs x).length = 3 from rfl, List.length_cons]; omega
noncomputable abbrev ctEn : CT := [(f_mem_Mem_SetWord, eSetWordT), (f_l31_exec, eExecL)]
theorem ctEn_ok : CTok Try.prog ctEn := ⟨con_ok cal_mem_Mem_SetWord _, con_ok cal_l31_exec _, trivial⟩
theorem enabled_c (l : List Grd) (cap : Nat) (tk : Int) (m0 : Ram) (h0 : m0.l.length = 1024) (hl : ∀ g ∈ l, 0 ≤ g.w ∧ g.w < 256) (hn : l.length ≤ 20) :
    Con Try.prog f_l31_enabled [.agg rdK.sv, .s (.loc 0 0), .s (.sl 1 0 l.length cap), .s (.int .u8 tk)] [mBox2 m0.l.length, .view (grdV l), mOwn m0.l]
    (.all Ram (fun m => InvE tk l l.length m) fun m => .ret (.tup [.s (.bool true), .s (.bool (anyP tk l l.length))]) [mBox2 m.l.length, .view (grdV l), mOwn m.l]) := by
  intro K hK
  refine enter fn_l31_enabled rfl nt_l31_enabled rfl rfl (fun φ w0 β0 F => ?_)
  refine c_run tt_ok ctEn_ok k_l31_enabled [] 60 (by kernel_rfl) ?_
  show WpC _ _ _ _ _
  refine c_loop (α := Nat × Ram) (fun x => x.1 ≤ 8 ∧ x.2.l.length = 1024 ∧ ∀ k : Int, 0 ≤ k → k < x.1 → x.2.word (chA k) = chW tk (fun _ => false) k) (fun x => 8 - x.1)
    (fun x => [(1, .t (.s (.loc 0 0)), none), (2, .t (.s (.sl 1 0 l.length cap)), none), (3, .t (.s (.int .u8 tk)), none), (4, .t (.s (.loc 3 0)), none), (10, .t (.s (.int .i32 (x.1 : Int))), none)])
    (fun x => [mBox2 x.2.l.length, .view (grdV l), mOwn x.2.l, .blk 32 rdK.sv]) (0, m0) ⟨Nat.zero_le _, h0, fun k h1 h2 => by simp at h2; omega⟩ ?_ ?_
  · exact into [0, 1, 2, 3] ⟨⟨_, rfl, rfl⟩, ⟨_, rfl, rfl⟩, ⟨_, rfl, rfl⟩, ⟨_, rfl, rfl⟩, ⟨_, rfl, rfl⟩, trivial⟩ ⟨_, rfl, rfl⟩ rfl rfl rfl rfl
  · rintro ⟨i, m⟩ ⟨hi, hlen, hch⟩
    simp only at hi hlen hch
    dsimp only
    refine c_run' tt_ok ctEn_ok k_l31_enabled [] 60 (by kernel_rfl) (by kernel_rfl) ?_
    refine ⟨fun h4 => ?_, fun h4 => ?_⟩
    · have h4' : (i : Int) < 8 := of_decide_eq_true h4
      have next : ∀ v : Int, v = chW tk (fun _ => false) (i : Int) → (i + 1 ≤ 8 ∧ (m.set (chA (i : Int)) v).l.length = 1024 ∧ ∀ k : Int, 0 ≤ k → k < ((i + 1 : Nat) : Int) → (m.set (chA (i : Int)) v).word (chA k) = chW tk (fun _ => false) k) := by
        rintro v rfl
        refine ⟨by omega, by rw [set_len]; exact hlen, fun k k0 k1 => ?_⟩
        rw [word_set hlen (chA_in (by omega) h4') (chA_in k0 (by omega)) (chW_i32 _ _ (by omega) h4')]
        by_cases hk : k = (i : Int)
        · subst hk; rw [if_pos rfl]
        · rw [if_neg (by rw [chA_eq k0 (by omega), chA_eq (by omega) h4']; omega)]
          exact hch k k0 (by omega)
      have hw : IntKind.i32.wrap ((i : Int) + 1) = ((i + 1 : Nat) : Int) := by rw [IntKind.wrap_i32]; omega
      refine ⟨by show (0 : Int) ≤ (i : Int); omega, fun h5 => ?_, fun h5 => ?_⟩
      · refine ⟨m, ⟨rfl, rfl, rfl, rfl, I32_wrap _⟩, ?_⟩
        refine e_again (i + 1, m.set (chA (i : Int)) (prA (i : Int))) (next _ (by unfold chW; rw [show tkB tk (i : Int) = true from h5]; rfl)) (by simp; omega) (into [0, 1, 2, 3] ⟨⟨_, rfl, rfl⟩, ⟨_, rfl, rfl⟩, ⟨_, rfl, rfl⟩, ⟨_, rfl, rfl⟩, ⟨_, rfl, fvi hw⟩, trivial⟩ ⟨_, rfl, rfl⟩ rfl rfl rfl rfl)
      · refine ⟨m, ⟨rfl, rfl, rfl, rfl, I32_wrap _⟩, ?_⟩
        refine e_again (i + 1, m.set (chA (i : Int)) (-2147483648)) (next _ (by unfold chW; rw [show tkB tk (i : Int) = false from h5]; rfl)) (by simp; omega) (into [0, 1, 2, 3] ⟨⟨_, rfl, rfl⟩, ⟨_, rfl, rfl⟩, ⟨_, rfl, rfl⟩, ⟨_, rfl, rfl⟩, ⟨_, rfl, fvi hw⟩, trivial⟩ ⟨_, rfl, rfl⟩ rfl rfl rfl rfl)
    · have h4' : ¬ (i : Int) < 8 := of_decide_eq_false h4
      have hi8 : i = 8 := by omega
      subst hi8
      have hbs := inA_bad hlen sA_in
      have hx : execR (rdA 0 0 0) m 15 67 = (rdA 0 0 0, 0, m.set (-2147483532) (-2147483647)) := by
        rw [rd_goR m _ _ _ _ (by decide) (by decide), show opM (rdA 0 0 0) m 67 = Mach.alt ⟨rdA 0 0 0, 0, m⟩ from rfl, ex_alt]
        exact st_ok (rdA 0 0 0) _ hbs
      refine ⟨(m, rdA 0 0 0, 0, m.set (-2147483532) (-2147483647)), ⟨rfl, rfl, rfl, rfl, ⟨rdK_ok, i32B_ok (by decide), i32B_ok (by decide), i32B_ok (by decide)⟩, hx⟩, ?_⟩
      have hI0 : InvE tk l 0 (m.set (-2147483532) (-2147483647)) := ⟨by rw [set_len]; exact hlen, fun k k0 k8 => by
          rw [word_set hlen sA_in (chA_in k0 k8) (i32B_ok (by decide)), if_neg (by rw [chA_eq k0 k8]; omega), hch k k0 (by omega)]; rfl,
        by rw [word_set hlen sA_in sA_in (i32B_ok (by decide)), if_pos rfl]; rfl⟩
      show WpC _ _ _ _ _
      refine c_loop (α := Nat × Ram) (fun x => x.1 ≤ l.length ∧ InvE tk l x.1 x.2) (fun x => l.length - x.1)
        (fun x => [(1, .t (.s (.loc 0 0)), none), (3, .t (.s (.int .u8 tk)), none), (4, .t (.s (.loc 3 0)), none), (14, .t (.s (.bool true)), none), (15, .t (.s (.bool (anyP tk l x.1))), none), (50, .t (.s (.sl 1 0 l.length cap)), none), (51, .t (.s (.int .i64 (l.length : Int))), none), (52, .t (.s (.int .i64 (x.1 : Int))), none)])
        (fun x => [mBox2 x.2.l.length, .view (grdV l), mOwn x.2.l, .blk 32 rdK.sv]) (0, m.set (-2147483532) (-2147483647)) ⟨Nat.zero_le _, hI0⟩ ?_ ?_
      · exact into [0, 1, 2, 3] ⟨⟨_, rfl, rfl⟩, ⟨_, rfl, rfl⟩, ⟨_, rfl, rfl⟩, ⟨_, rfl, rfl⟩, ⟨_, rfl, rfl⟩, ⟨_, rfl, rfl⟩, ⟨_, rfl, rfl⟩, ⟨_, rfl, rfl⟩, trivial⟩ ⟨_, rfl, rfl⟩ rfl rfl rfl rfl
      · rintro ⟨j, q⟩ ⟨hj, hI⟩
        simp only at hj hI
        dsimp only
        refine c_run' tt_ok ctEn_ok k_l31_enabled [] 60 (by kernel_rfl) (by kernel_rfl) ?_
        refine ⟨fun h6 => ?_, fun h6 => ?_⟩
        · have h6' : (j : Int) < l.length := of_decide_eq_true h6
          have hjl : j < l.length := by omega
          obtain ⟨g, hg⟩ : ∃ g, l[j]? = some g := ⟨l[j], List.getElem?_eq_getElem hjl⟩
          have hgw := hl g (List.mem_of_getElem? hg)
          obtain ⟨q', hx, hI'⟩ := en_step hI hg hgw
          have hrow := grd_row hg
          have hany := anyP_succ (tk := tk) hg
          have hk := Grd.k_range hgw
          have hch32 := inA_i32 (chA_in hk.1 hk.2)
          have hw : IntKind.i64.wrap ((j : Int) + 1) = ((j + 1 : Nat) : Int) := by rw [IntKind.wrap_i64]; omega
          obtain ⟨t, c, w⟩ := g
          refine ⟨j, ⟨rfl, hjl, by show 0 + (j + 1) * (2 + 1) ≤ (grdV l).length; rw [grdV_length]; omega⟩, [.bool t, .bool c, .int .u8 w], rfl, ⟨Nat.le_refl 3, hrow⟩, ?_⟩
          cases t <;> cases c
          · refine ⟨fun h => (by cases h), fun _ => ⟨fun h => (by cases h), fun _ => ?_⟩⟩
            refine ⟨(q, rdA 0 88 77, 0, q'), ⟨rfl, rfl, rfl, rfl, ⟨rdK_ok, i32B_ok (by decide), i32B_ok (by decide), i32B_ok (by decide)⟩, hx⟩, ?_⟩
            refine e_again (j + 1, q') ⟨hjl, hI'⟩ (by simp only; omega) (into [0, 1, 2, 3] ⟨⟨_, rfl, rfl⟩, ⟨_, rfl, rfl⟩, ⟨_, rfl, rfl⟩, ⟨_, rfl, fvb ?_⟩, ⟨_, rfl, fvb ?_⟩, ⟨_, rfl, rfl⟩, ⟨_, rfl, rfl⟩, ⟨_, rfl, fvi hw⟩, trivial⟩ ⟨_, rfl, rfl⟩ rfl rfl rfl rfl)
            · simp
            · show _ = anyP tk l (j + 1)
              rw [hany]
              cases anyP tk l j <;> rfl
          · refine ⟨fun h => (by cases h), fun _ => ⟨fun _ => ?_, fun h => (by cases h)⟩⟩
            refine ⟨(q, rdA 0 77 77, 0, q'), ⟨rfl, rfl, rfl, rfl, ⟨rdK_ok, i32B_ok (by decide), hch32, i32B_ok (by decide)⟩, hx⟩, ?_⟩
            refine ⟨fun _ => hk.1, ?_⟩
            refine e_again (j + 1, q') ⟨hjl, hI'⟩ (by simp only; omega) (into [0, 1, 2, 3] ⟨⟨_, rfl, rfl⟩, ⟨_, rfl, rfl⟩, ⟨_, rfl, rfl⟩, ⟨_, rfl, fvb ?_⟩, ⟨_, rfl, fvb ?_⟩, ⟨_, rfl, rfl⟩, ⟨_, rfl, rfl⟩, ⟨_, rfl, fvi hw⟩, trivial⟩ ⟨_, rfl, rfl⟩ rfl rfl rfl rfl)
            · simp
            · show _ = anyP tk l (j + 1)
              rw [hany]
              cases anyP tk l j <;> rfl
          · refine ⟨fun _ => ⟨fun h => (by cases h), fun _ => ?_⟩, fun h => (by cases h)⟩
            refine ⟨(q, rdA (-5) 88 77, 0, q'), ⟨rfl, rfl, rfl, rfl, ⟨rdK_ok, i32B_ok (by decide), i32B_ok (by decide), i32B_ok (by decide)⟩, hx⟩, ?_⟩
            refine e_again (j + 1, q') ⟨hjl, hI'⟩ (by simp only; omega) (into [0, 1, 2, 3] ⟨⟨_, rfl, rfl⟩, ⟨_, rfl, rfl⟩, ⟨_, rfl, rfl⟩, ⟨_, rfl, fvb ?_⟩, ⟨_, rfl, fvb ?_⟩, ⟨_, rfl, rfl⟩, ⟨_, rfl, rfl⟩, ⟨_, rfl, fvi hw⟩, trivial⟩ ⟨_, rfl, rfl⟩ rfl rfl rfl rfl)
            · simp
            · show _ = anyP tk l (j + 1)
              rw [hany]
              cases anyP tk l j <;> rfl
          · refine ⟨fun _ => ⟨fun _ => ?_, fun h => (by cases h)⟩, fun h => (by cases h)⟩
            refine ⟨(q, rdA (-5) 77 77, 0, q'), ⟨rfl, rfl, rfl, rfl, ⟨rdK_ok, i32B_ok (by decide), hch32, i32B_ok (by decide)⟩, hx⟩, ?_⟩
            refine ⟨fun _ => hk.1, ?_⟩
            refine e_again (j + 1, q') ⟨hjl, hI'⟩ (by simp only; omega) (into [0, 1, 2, 3] ⟨⟨_, rfl, rfl⟩, ⟨_, rfl, rfl⟩, ⟨_, rfl, rfl⟩, ⟨_, rfl, fvb ?_⟩, ⟨_, rfl, fvb ?_⟩, ⟨_, rfl, rfl⟩, ⟨_, rfl, rfl⟩, ⟨_, rfl, fvi hw⟩, trivial⟩ ⟨_, rfl, rfl⟩ rfl rfl rfl rfl)
            · simp
            · show _ = anyP tk l (j + 1)
              rw [hany]
              cases anyP tk l j <;> rfl
        · have h6' : ¬ (j : Int) < l.length := of_decide_eq_false h6
          have hjl : j = l.length := by omega
          subst hjl
          exact fin_k tt_ok (rs := rs_l31_enabled) rfl rfl (hK q hI) [0, 1, 2] rfl rfl rfl rfl rfl rfl
end Go.Proofs

namespace Go.Proofs
open Go Go.Sx
set_option maxRecDepth 10000
noncomputable abbrev eEnabled : Ent := .st (conS (P := Try.prog) (f := f_l31_enabled) fun cargs σ0 => match cargs, σ0 with
  | [.agg cs, .s (.loc 0 0), .s (.sl 1 0 n cap), .s (.int .u8 tk)], [.blk 65 [.sl 2 0 n1 n2], .view ys, .own 5 1 c xs] => some ⟨.ex (List Grd × Ram) fun p => .ask (cs = rdK.sv ∧ n = p.1.length ∧ ys = grdV p.1 ∧ n1 = p.2.l.length ∧ n2 = p.2.l.length ∧ c = p.2.l.length ∧ xs = bytesI p.2.l ∧ p.2.l.length = 1024 ∧ (∀ g ∈ p.1, 0 ≤ g.w ∧ g.w < 256) ∧ p.1.length ≤ 20)
      (.all Ram (fun m => InvE tk p.1 p.1.length m) fun m => .ret (.tup [.s (.bool true), .s (.bool (anyP tk p.1 p.1.length))]) [mBox2 m.l.length, .view (grdV p.1), mOwn m.l]), fun K h => by
      obtain ⟨⟨l, m0⟩, ⟨e1, e2, e3, e4, e5, e6, e7, h1, h2, h3⟩, h⟩ := h
      dsimp only at e1 e2 e3 e4 e5 e6 e7 h1 h2 h3 h
      subst e1; subst e2; subst e3; subst e4; subst e5; subst e6; subst e7
      exact enabled_c l cap tk m0 h1 h2 h3 K h⟩
  | _, _ => none)
theorem grdV_take (l : List Grd) (n : Nat) (h : n ≤ l.length) : seg (grdV l) (0 + 0 * 3) ((n - 0) * 3) = grdV (l.take n) := by
  induction n generalizing l with
  | zero => simp [seg, grdV]
  | succ n ih =>
    cases l with
    | nil => simp at h
    | cons x l =>
      have hx : (Grd.vs x).length = 3 := rfl
      have := ih l (by simpa using h)
      show ((Grd.vs x ++ grdV l).drop 0).take ((n + 1 - 0) * 3) = Grd.vs x ++ grdV (l.take n)
      rw [← this, List.drop_zero, show (n + 1 - 0) * 3 = (Grd.vs x).length + n * 3 by rw [hx]; omega, List.take_length_add_append]
      rfl
noncomputable abbrev ctSl : CT := [(f_l31_ready, eReady), (f_l31_enabled, eEnabled), (f_l31_exec, eExecL), (f_l31_word, eLword), (f_l31_works, .pure spWorks)]
theorem ctSl_ok : CTok Try.prog ctSl := ⟨con_ok cal_l31_ready _, con_ok cal_l31_enabled _, con_ok cal_l31_exec _, con_ok cal_l31_word _, ceWorks, trivial⟩
theorem ten_wrap {i : Nat} (h : i < 20) : IntKind.i32.wrap (IntKind.i64.wrap (10 + (i : Int))) = 10 + (i : Int) := by
  rw [IntKind.wrap_i64, IntKind.wrap_i32]; omega
set_option maxHeartbeats 4000000 in
theorem AltSelects_c (L : List Grd) (cap : Nat) (tk : Int) (hL : ∀ g ∈ L, 0 ≤ g.w ∧ g.w < 256) (hc : L.length ≤ cap) (hm : cap ≤ maxLen) :
    Con Try.prog f_l31_AltSelects [.s (.sl 0 0 L.length cap), .s (.int .u8 tk)] [.view (grdV L)] (.ret (.t (.s (.bool true))) [.view (grdV L)]) := by
  intro K hK
  have hm' : cap ≤ 9223372036854775807 := hm
  obtain ⟨l, hl⟩ : ∃ l, l = L.take (min L.length 20) := ⟨_, rfl⟩
  have hln : l.length = min L.length 20 := by rw [hl, List.length_take]; omega
  have hlw : ∀ g ∈ l, 0 ≤ g.w ∧ g.w < 256 := fun g hg => hL g (by rw [hl] at hg; exact List.mem_of_mem_take hg)
  have hlv : seg (grdV L) (0 + 0 * 3) ((min L.length 20 - 0) * 3) = grdV l := by rw [grdV_take _ _ (by omega), hl]
  have hz : Ram.z.l.length = 1024 := by simp [Ram.z]
  refine enter fn_l31_AltSelects rfl nt_l31_AltSelects rfl rfl (fun φ w0 β0 F => ?_)
  refine c_run tt_ok ctSl_ok k_l31_AltSelects [] 60 (by kernel_rfl) ?_
  refine ⟨0, min L.length 20, ⟨_, _, rfl, rfl, rfl, ?_⟩, ⟨by omega, by omega⟩, ?_⟩
  · show (if (20 : Int) < (L.length : Int) then (20 : Int) else (L.length : Int)) = _
    split <;> omega
  refine ⟨(l, Ram.z), ⟨rfl, hln.symm, hlv, hz.symm, hz.symm, hz.symm, rfl, hz, hlw, by show l.length ≤ 20; omega⟩, fun m hI => ?_⟩
  cases ha : anyP tk l l.length with
  | false =>
    obtain ⟨m', hx, q1, q2, q3⟩ := wait_none hI ha
    refine ⟨(m, (rdA 0 0 0).nobody, 0, m'), ⟨rfl, rfl, rfl, rfl, ⟨rdK_ok, i32B_ok (by decide), i32B_ok (by decide), i32B_ok (by decide)⟩, hx⟩, ?_⟩
    refine ⟨fun h => ?_, fun h => ?_⟩
    · refine ⟨m', ⟨rfl, rfl, rfl, rfl, i32B_ok (by decide)⟩, fun h1 => ?_, fun h1 => ⟨fun h2 => ?_, fun h2 => ?_⟩⟩
      · exfalso; simp [q1, Core.nobody, rdA] at h1; 
      · refine c_ways tt_ok ctSl_ok k_l31_AltSelects rfl rfl ?_
        repeat' (first | exact trivial | (refine ⟨m', ⟨rfl, rfl, rfl, rfl, i32B_ok (by decide)⟩, ?_⟩) | (refine And.intro ?_ ?_) | (intro h; simp [q2] at h; done) | (refine fun _ => ?_))
        all_goals
          refine e_run tt_ok ctSl_ok k_l31_AltSelects [] 60 (by kernel_rfl) ?_
          refine fin_k tt_ok (rs := rs_l31_AltSelects) rfl rfl hK [0] ?_ rfl rfl rfl rfl rfl
          refine t1b ?_
          simp [q2, q3]
      · exfalso; simp at h2
    · exfalso; simp at h
  | true =>
    have hD := dis_init hI
    refine ⟨(m, rdA 0 0 0, 0, m.set (-2147483520) (-1)), ⟨rfl, rfl, rfl, rfl, ⟨rdK_ok, i32B_ok (by decide), i32B_ok (by decide), i32B_ok (by decide)⟩, wait_any hI ha⟩, ?_⟩
    have hW := hD.w0 rfl
    generalize m.set (-2147483520) (-1) = m1 at hD hW
    refine ⟨fun h => ?_, fun h => ?_⟩
    rotate_left
    · exfalso; simp [rdA] at h
    refine ⟨m1, ⟨rfl, rfl, rfl, rfl, i32B_ok (by decide)⟩, fun h1 => ?_, fun h1 => ⟨fun h2 => ?_, fun h2 => ?_⟩⟩
    · exfalso; simp [hW, rdA] at h1
    · exfalso; simp at h2
    show WpC _ _ _ _ _
    refine c_loop (α := Nat × Ram) (fun x => x.1 ≤ l.length ∧ InvD tk l x.1 x.2) (fun x => l.length - x.1)
      (fun x => [(1, .t (.s (.int .u8 tk)), none), (5, .t (.s (.loc 4 0)), none), (6, .t (.s (.loc 2 0)), none), (11, .t (.s (.bool (!anyP tk l x.1))), none), (81, .t (.s (.sl 1 0 l.length cap)), none), (82, .t (.s (.int .i64 (l.length : Int))), none), (83, .t (.s (.int .i64 (x.1 : Int))), none)])
      (fun x => [.view (grdV L), .view (grdV l), .blk 65 [.sl 3 0 x.2.l.length x.2.l.length], mOwn x.2.l, .blk 32 rdK.sv]) (0, m1) ⟨Nat.zero_le _, hD⟩ ?_ ?_
    · exact into [0, 1, 2, 3, 4] ⟨⟨_, rfl, rfl⟩, ⟨_, rfl, rfl⟩, ⟨_, rfl, rfl⟩, ⟨_, rfl, rfl⟩, ⟨_, rfl, fvsl rfl hln.symm rfl⟩, ⟨_, rfl, fvi (by rw [hln]; rfl)⟩, ⟨_, rfl, rfl⟩, trivial⟩ ⟨_, rfl, rfl⟩ rfl rfl rfl rfl
    · rintro ⟨i, q⟩ ⟨hi, hI⟩
      simp only at hi hI
      dsimp only
      refine c_run' tt_ok ctSl_ok k_l31_AltSelects [] 60 (by kernel_rfl) (by kernel_rfl) ?_
      refine ⟨fun h6 => ?_, fun h6 => ?_⟩
      · have h6' : (i : Int) < l.length := of_decide_eq_true h6
        have hil : i < l.length := by omega
        obtain ⟨g, hg⟩ : ∃ g, l[i]? = some g := ⟨l[i], List.getElem?_eq_getElem hil⟩
        have hgw := hlw g (List.mem_of_getElem? hg)
        have hi20 : i < 20 := by omega
        obtain ⟨q', hx, hI', hsel⟩ := dis_step hI hg hgw hi20
        have hrow := grd_row hg
        have hany := anyP_succ (tk := tk) hg
        have hk := Grd.k_range hgw
        have hch32 := inA_i32 (chA_in hk.1 hk.2)
        have hw : IntKind.i64.wrap ((i : Int) + 1) = ((i + 1 : Nat) : Int) := by rw [IntKind.wrap_i64]; omega
        have ha10 : IntKind.i32.wrap (IntKind.i64.wrap (10 + (i : Int))) = 10 + (i : Int) := ten_wrap hi20
        have h032 : I32 0 := i32B_ok (by decide)
        have h132 : I32 1 := i32B_ok (by decide)
        rw [← ha10] at hx
        obtain ⟨t, c, w⟩ := g
        refine ⟨i, ⟨rfl, hil, by show 0 + (i + 1) * (2 + 1) ≤ (grdV l).length; rw [grdV_length]; omega⟩, [.bool t, .bool c, .int .u8 w], rfl, ⟨Nat.le_refl 3, hrow⟩, ?_⟩
        cases t <;> cases c
        · refine ⟨fun h => (by cases h), fun _ => ⟨fun h => (by cases h), fun _ => ?_⟩⟩
          refine ⟨(q, rdA (bif (Grd.rdy tk ⟨false, false, w⟩ && !anyP tk l i) then 1 else 0) 0 0, 0, q'), ⟨rfl, rfl, rfl, rfl, ⟨rdK_ok, I32_wrap _, h032, h032⟩, hx⟩, ?_⟩
          have hR' : Grd.rdy tk ⟨false, false, w⟩ = false := rfl
          rw [hR'] at hsel hany ⊢
          refine ⟨fun h => ?_, fun _ => ?_⟩
          · exfalso
            cases hA : anyP tk l i <;>  simp [hA] at h
          · refine ⟨fun hg5 => ⟨q', ⟨rfl, rfl, rfl, rfl, i32B_ok (by decide)⟩, fun h5 => ?_, fun h5 => ?_⟩, fun hg5 => ⟨fun h5 => absurd (hg5.symm.trans h5) (by decide), fun _ => ⟨hg5, fun h5 => absurd h5 (by decide), fun _ => ?_⟩⟩⟩
            · exfalso
              rw [ha10] at h5
              cases hA : anyP tk l i <;>  first | (simp [hA] at h5; done) | (simp [hA] at hsel h5; done) | (simp [hA] at hsel h5; exact h5 hsel)
            · refine e_again (i + 1, q') ⟨hil, hI'⟩ (by show l.length - (i + 1) < l.length - i; omega) (into [0, 1, 2, 3, 4] ⟨⟨_, rfl, rfl⟩, ⟨_, rfl, rfl⟩, ⟨_, rfl, rfl⟩, ⟨_, rfl, fvb ?_⟩, ⟨_, rfl, rfl⟩, ⟨_, rfl, rfl⟩, ⟨_, rfl, fvi hw⟩, trivial⟩ ⟨_, rfl, rfl⟩ rfl rfl rfl rfl)
              show _ = !anyP tk l (i + 1)
              rw [hany]
              cases anyP tk l i <;>  rfl
            · refine e_again (i + 1, q') ⟨hil, hI'⟩ (by show l.length - (i + 1) < l.length - i; omega) (into [0, 1, 2, 3, 4] ⟨⟨_, rfl, rfl⟩, ⟨_, rfl, rfl⟩, ⟨_, rfl, rfl⟩, ⟨_, rfl, fvb ?_⟩, ⟨_, rfl, rfl⟩, ⟨_, rfl, rfl⟩, ⟨_, rfl, fvi hw⟩, trivial⟩ ⟨_, rfl, rfl⟩ rfl rfl rfl rfl)
              show _ = !anyP tk l (i + 1)
              rw [hany]
              cases anyP tk l i <;>  rfl
        · refine ⟨fun h => (by cases h), fun _ => ⟨fun _ => ?_, fun h => (by cases h)⟩⟩
          refine ⟨fun _ => hk.1, ?_⟩
          refine ⟨(q, rdA (bif (Grd.rdy tk ⟨false, true, w⟩ && !anyP tk l i) then 1 else 0) 0 0, 0, q'), ⟨rfl, rfl, rfl, rfl, ⟨rdK_ok, I32_wrap _, h032, hch32⟩, hx⟩, ?_⟩
          have hR' : Grd.rdy tk ⟨false, true, w⟩ = false := rfl
          rw [hR'] at hsel hany ⊢
          refine ⟨fun h => ?_, fun _ => ?_⟩
          · exfalso
            cases hA : anyP tk l i <;>  simp [hA] at h
          · refine ⟨fun hg5 => ⟨q', ⟨rfl, rfl, rfl, rfl, i32B_ok (by decide)⟩, fun h5 => ?_, fun h5 => ?_⟩, fun hg5 => ⟨fun h5 => absurd (hg5.symm.trans h5) (by decide), fun _ => ⟨hg5, fun h5 => absurd h5 (by decide), fun _ => ?_⟩⟩⟩
            · exfalso
              rw [ha10] at h5
              cases hA : anyP tk l i <;>  first | (simp [hA] at h5; done) | (simp [hA] at hsel h5; done) | (simp [hA] at hsel h5; exact h5 hsel)
            · refine e_again (i + 1, q') ⟨hil, hI'⟩ (by show l.length - (i + 1) < l.length - i; omega) (into [0, 1, 2, 3, 4] ⟨⟨_, rfl, rfl⟩, ⟨_, rfl, rfl⟩, ⟨_, rfl, rfl⟩, ⟨_, rfl, fvb ?_⟩, ⟨_, rfl, rfl⟩, ⟨_, rfl, rfl⟩, ⟨_, rfl, fvi hw⟩, trivial⟩ ⟨_, rfl, rfl⟩ rfl rfl rfl rfl)
              show _ = !anyP tk l (i + 1)
              rw [hany]
              cases anyP tk l i <;>  rfl
            · refine e_again (i + 1, q') ⟨hil, hI'⟩ (by show l.length - (i + 1) < l.length - i; omega) (into [0, 1, 2, 3, 4] ⟨⟨_, rfl, rfl⟩, ⟨_, rfl, rfl⟩, ⟨_, rfl, rfl⟩, ⟨_, rfl, fvb ?_⟩, ⟨_, rfl, rfl⟩, ⟨_, rfl, rfl⟩, ⟨_, rfl, fvi hw⟩, trivial⟩ ⟨_, rfl, rfl⟩ rfl rfl rfl rfl)
              show _ = !anyP tk l (i + 1)
              rw [hany]
              cases anyP tk l i <;>  rfl
        · refine ⟨fun _ => ⟨fun h => (by cases h), fun _ => ?_⟩, fun h => (by cases h)⟩
          refine ⟨(q, rdA (bif (Grd.rdy tk ⟨true, false, w⟩ && !anyP tk l i) then 1 else 0) 0 0, 0, q'), ⟨rfl, rfl, rfl, rfl, ⟨rdK_ok, I32_wrap _, h132, h032⟩, hx⟩, ?_⟩
          have hR' : Grd.rdy tk ⟨true, false, w⟩ = true := rfl
          rw [hR'] at hsel hany ⊢
          refine ⟨fun h => ?_, fun _ => ?_⟩
          · exfalso
            cases hA : anyP tk l i <;>  simp [hA] at h
          · refine ⟨fun hg5 => ⟨q', ⟨rfl, rfl, rfl, rfl, i32B_ok (by decide)⟩, fun h5 => ?_, fun h5 => ?_⟩, fun hg5 => ⟨fun h5 => absurd (hg5.symm.trans h5) (by decide), fun _ => ⟨hg5, fun h5 => absurd h5 (by decide), fun _ => ?_⟩⟩⟩
            · exfalso
              rw [ha10] at h5
              cases hA : anyP tk l i <;>  first | (simp [hA] at h5; done) | (simp [hA] at hsel h5; done) | (simp [hA] at hsel h5; exact h5 hsel)
            · refine e_again (i + 1, q') ⟨hil, hI'⟩ (by show l.length - (i + 1) < l.length - i; omega) (into [0, 1, 2, 3, 4] ⟨⟨_, rfl, rfl⟩, ⟨_, rfl, rfl⟩, ⟨_, rfl, rfl⟩, ⟨_, rfl, fvb ?_⟩, ⟨_, rfl, rfl⟩, ⟨_, rfl, rfl⟩, ⟨_, rfl, fvi hw⟩, trivial⟩ ⟨_, rfl, rfl⟩ rfl rfl rfl rfl)
              show _ = !anyP tk l (i + 1)
              rw [hany]
              cases anyP tk l i <;>  rfl
            · refine e_again (i + 1, q') ⟨hil, hI'⟩ (by show l.length - (i + 1) < l.length - i; omega) (into [0, 1, 2, 3, 4] ⟨⟨_, rfl, rfl⟩, ⟨_, rfl, rfl⟩, ⟨_, rfl, rfl⟩, ⟨_, rfl, fvb ?_⟩, ⟨_, rfl, rfl⟩, ⟨_, rfl, rfl⟩, ⟨_, rfl, fvi hw⟩, trivial⟩ ⟨_, rfl, rfl⟩ rfl rfl rfl rfl)
              show _ = !anyP tk l (i + 1)
              rw [hany]
              cases anyP tk l i <;>  rfl
        · refine ⟨fun _ => ⟨fun _ => ?_, fun h => (by cases h)⟩, fun h => (by cases h)⟩
          refine ⟨fun _ => hk.1, ?_⟩
          refine ⟨(q, rdA (bif (Grd.rdy tk ⟨true, true, w⟩ && !anyP tk l i) then 1 else 0) 0 0, 0, q'), ⟨rfl, rfl, rfl, rfl, ⟨rdK_ok, I32_wrap _, h132, hch32⟩, hx⟩, ?_⟩
          have hR' : Grd.rdy tk ⟨true, true, w⟩ = (bits BinOp.and .u8 (tk.fdiv (2 ^ min (IntKind.i32.wrap (w.tmod 8)).toNat IntKind.u8.bits)) 1 == 1) := rfl
          rw [hR'] at hsel hany ⊢
          refine ⟨fun h => ?_, fun _ => ?_⟩
          · exfalso
            cases hA : anyP tk l i <;> cases hR : (bits BinOp.and .u8 (tk.fdiv (2 ^ min (IntKind.i32.wrap (w.tmod 8)).toNat IntKind.u8.bits)) 1 == 1) <;> simp [hA, hR] at h
          · refine ⟨fun hg5 => ⟨q', ⟨rfl, rfl, rfl, rfl, i32B_ok (by decide)⟩, fun h5 => ?_, fun h5 => ?_⟩, fun hg5 => ⟨fun h5 => absurd (hg5.symm.trans h5) (by decide), fun _ => ⟨hg5, fun h5 => absurd h5 (by decide), fun _ => ?_⟩⟩⟩
            · exfalso
              rw [ha10] at h5
              cases hA : anyP tk l i <;> cases hR : (bits BinOp.and .u8 (tk.fdiv (2 ^ min (IntKind.i32.wrap (w.tmod 8)).toNat IntKind.u8.bits)) 1 == 1) <;> first | (simp [hA, hR] at h5; done) | (simp [hA, hR] at hsel h5; done) | (simp [hA, hR] at hsel h5; exact h5 hsel)
            · refine e_again (i + 1, q') ⟨hil, hI'⟩ (by show l.length - (i + 1) < l.length - i; omega) (into [0, 1, 2, 3, 4] ⟨⟨_, rfl, rfl⟩, ⟨_, rfl, rfl⟩, ⟨_, rfl, rfl⟩, ⟨_, rfl, fvb ?_⟩, ⟨_, rfl, rfl⟩, ⟨_, rfl, rfl⟩, ⟨_, rfl, fvi hw⟩, trivial⟩ ⟨_, rfl, rfl⟩ rfl rfl rfl rfl)
              show _ = !anyP tk l (i + 1)
              rw [hany]
              cases anyP tk l i <;> cases (bits BinOp.and .u8 (tk.fdiv (2 ^ min (IntKind.i32.wrap (w.tmod 8)).toNat IntKind.u8.bits)) 1 == 1) <;> rfl
            · refine e_again (i + 1, q') ⟨hil, hI'⟩ (by show l.length - (i + 1) < l.length - i; omega) (into [0, 1, 2, 3, 4] ⟨⟨_, rfl, rfl⟩, ⟨_, rfl, rfl⟩, ⟨_, rfl, rfl⟩, ⟨_, rfl, fvb ?_⟩, ⟨_, rfl, rfl⟩, ⟨_, rfl, rfl⟩, ⟨_, rfl, fvi hw⟩, trivial⟩ ⟨_, rfl, rfl⟩ rfl rfl rfl rfl)
              show _ = !anyP tk l (i + 1)
              rw [hany]
              cases anyP tk l i <;> cases (bits BinOp.and .u8 (tk.fdiv (2 ^ min (IntKind.i32.wrap (w.tmod 8)).toNat IntKind.u8.bits)) 1 == 1) <;> rfl
      · have h6' : ¬ (i : Int) < l.length := of_decide_eq_false h6
        have hil : i = l.length := by omega
        subst hil
        show WpC _ _ _ _ _
        refine c_loop (α := Nat) (fun j => j ≤ 8) (fun j => 8 - j)
          (fun j => [(1, .t (.s (.int .u8 tk)), none), (5, .t (.s (.loc 3 0)), none), (6, .t (.s (.loc 1 0)), none), (21, .t (.s (.int .i32 (j : Int))), none)])
          (fun _ => [.view (grdV L), .blk 65 [.sl 2 0 q.l.length q.l.length], mOwn q.l, .blk 32 rdK.sv]) 0 (by decide) ?_ ?_
        · exact into [0, 2, 3, 4] ⟨⟨_, rfl, rfl⟩, ⟨_, rfl, rfl⟩, ⟨_, rfl, rfl⟩, ⟨_, rfl, rfl⟩, trivial⟩ ⟨_, rfl, rfl⟩ rfl rfl rfl rfl
        · intro j hj
          dsimp only
          refine c_run' tt_ok ctSl_ok k_l31_AltSelects [] 60 (by kernel_rfl) (by kernel_rfl) ?_
          refine ⟨fun h7 => ?_, fun h7 => ?_⟩
          · have h7' : (j : Int) < 8 := of_decide_eq_true h7
            have hdd := dis_done hI (k := (j : Int)) (by omega) h7'
            have hw : IntKind.i32.wrap ((j : Int) + 1) = ((j + 1 : Nat) : Int) := by rw [IntKind.wrap_i32]; omega
            refine ⟨by show (0 : Int) ≤ (j : Int); omega, fun h8 => ?_, fun h8 => ?_⟩
            · rw [show tkB tk (j : Int) = true from h8, cond_true] at hdd
              refine ⟨q, ⟨rfl, rfl, rfl, rfl, I32_wrap _⟩, fun h9 => ?_, fun _ => ?_⟩
              · exfalso
                replace h9 : (q.word (chA (j : Int)) != prA (j : Int)) = true := h9
                rw [hdd] at h9; simp at h9
              · exact e_again (j + 1) (by omega) (by show 8 - (j + 1) < 8 - j; omega) (into [0, 1, 2, 3] ⟨⟨_, rfl, rfl⟩, ⟨_, rfl, rfl⟩, ⟨_, rfl, rfl⟩, ⟨_, rfl, fvi hw⟩, trivial⟩ ⟨_, rfl, rfl⟩ rfl rfl rfl rfl)
            · rw [show tkB tk (j : Int) = false from h8, cond_false] at hdd
              refine ⟨q, ⟨rfl, rfl, rfl, rfl, I32_wrap _⟩, fun h9 => ?_, fun _ => ?_⟩
              · exfalso
                replace h9 : (q.word (chA (j : Int)) != -2147483648) = true := h9
                rw [hdd] at h9; simp at h9
              · exact e_again (j + 1) (by omega) (by show 8 - (j + 1) < 8 - j; omega) (into [0, 1, 2, 3] ⟨⟨_, rfl, rfl⟩, ⟨_, rfl, rfl⟩, ⟨_, rfl, rfl⟩, ⟨_, rfl, fvi hw⟩, trivial⟩ ⟨_, rfl, rfl⟩ rfl rfl rfl rfl)
          · have hsel := hI.w1 ha
            refine ⟨q, ⟨rfl, rfl, rfl, rfl, i32B_ok (by decide)⟩, ?_⟩
            refine ⟨(q, rdI (IntKind.i32.wrap (-2147483048 + q.word (-2147483520))), 0, q), ⟨rfl, rfl, rfl, rfl, ⟨rdK_ok, i32B_ok (by decide), i32B_ok (by decide), i32B_ok (by decide)⟩, end_step hI.len⟩, ?_⟩
            refine ⟨fun _ => trivial, ?_⟩
            refine fin_k tt_ok (rs := rs_l31_AltSelects) rfl rfl hK [0] ?_ rfl rfl rfl rfl rfl
            refine t1b ?_
            simp
            omega
end Go.Proofs

namespace Go.Proofs
open Go Go.Sx
def Grd.good (g : Grd) : Prop := 0 ≤ g.w ∧ g.w < 256
theorem grd_conv (q : List Value) (h : KOK [.bool, .bool, .int .u8] q) : ∃ e, Grd.good e ∧ q = Grd.vs e := by
  match q, h with
  | [a, b, c], ⟨⟨t, h1⟩, ⟨d, h2⟩, ⟨n, h3, h4⟩, _⟩ =>
    subst h1; subst h2; subst h3
    exact ⟨⟨t, d, n⟩, u8_fit h4, rfl⟩
end Go.Proofs
