/- Words of memories; the tape; small functions of timer. -/
import Derived.Test.YtcjaggapamngmaaWalkC
import Derived.Test.YtcjaggapamngmaaSxE
import Derived.Test.YtcjaggapamngmaaSxD

namespace Go.Sx
open Go
section
variable {X : Cx} {fr : Fr} {σ : List Ch}
/-- A slot of a record that holds nil is a row of nothing. -/
theorem nilCell2 (i e sz : Nat) {t : Nat} {c0 : SV} (hc : σ[i]? = some (.blk t [c0, .raw (.slice none 0 0)])) : InTo X fr σ fr ((σ ++ [Ch.own e sz 0 []]).set i (.blk t [c0, .sl σ.length 0 0 0])) := by
  intro β a w hr
  have hlt := (List.getElem?_eq_some_iff.1 hc).1
  obtain ⟨β', h1, h2, h3⟩ := push_nil hr.mem e sz
  have hc' : (σ ++ [Ch.own e sz 0 []])[i]? = some (.blk t [c0, .raw (.slice none 0 0)]) := by rw [List.getElem?_append_left hlt]; exact hc
  have hw := h3.wf _ (List.mem_of_getElem? hc')
  refine ⟨β', hr.defers, hr.size, Knows.ext hr.frwf h1 hr.knows, fun x hx => FV.wf_mono (by simp) (hr.frwf x hx), ?_, hr.same, fun i hi => (h1 i (Nat.lt_of_lt_of_le hi hr.fits)).trans (hr.agree i hi), by have := hr.fits; simp; omega, ?_⟩
  · refine h3.weak hc' (fun g hg => hg) (fun g hg => hg) ?_ ?_
    · intro x hx
      simp only [List.mem_cons, List.not_mem_nil, or_false] at hx
      rcases hx with rfl | rfl
      · exact hw _ (by simp)
      · show σ.length < _
        simp
    · have hs := h3.sat i _ hc'
      simp only [Ch.sat] at hs ⊢
      refine ⟨hs.1, ?_⟩
      rw [hs.2]
      simp [SV.den, h2]
  · intro l c hl g hg
    by_cases hil : i = l
    · subst hil
      rw [List.getElem?_set_self (by simp; omega)] at hl
      cases hl
      have hg' : g ∈ (Ch.blk t [c0, .raw (.slice none 0 0)]).rfoot (β' i) := hg
      rw [h1 i hlt] at hg'
      exact hr.src i _ hc g hg'
    · rw [List.getElem?_set_ne hil] at hl
      rcases append_get hl with ⟨hl', hd'⟩ | ⟨rfl, rfl⟩
      · rw [h1 l hl'] at hg; exact hr.src l c hd' g hg
      · simp [Ch.rfoot, Ch.foot, h2] at hg
/-- A row gets a new number. -/
theorem rowMove (j i : Nat) {t e sz n cap cap' : Nat} {c0 : SV} {xs : List Value} (hj : σ[j]? = some (.blk t [c0, .sl i 0 n cap])) (hi : σ[i]? = some (.own e sz cap' xs)) :
    InTo X fr σ fr ((σ.set i .dead ++ [Ch.own e sz cap' xs]).set j (.blk t [c0, .sl σ.length 0 n cap])) := by
  intro β a w hr
  have hjl := (List.getElem?_eq_some_iff.1 hj).1
  have hil := (List.getElem?_eq_some_iff.1 hi).1
  have hij : i ≠ j := by rintro rfl; rw [hi] at hj; cases hj
  have hkill : Sat β (σ.set i .dead) X.φ w := hr.mem.weak hi (fun g hg => by simp [Ch.foot] at hg) (fun g hg => by simp [Ch.rfoot, Ch.foot] at hg) trivial trivial
  have hlenS : (σ.set i .dead).length = σ.length := by simp
  obtain ⟨β', h1, h2, h3⟩ := hkill.push (w' := w) (.own e sz cap' xs) (β i) (fun _ _ _ => rfl)
    (fun g hg => by
      have hgf : g ∈ (Ch.own e sz cap' xs).foot (β i) := hg
      refine .inr ⟨fun l d hd hg' => ?_, hr.mem.off i _ hi g hgf⟩
      by_cases hil' : i = l
      · subst hil'; rw [List.getElem?_set_self hil] at hd; cases hd; simp [Ch.rfoot, Ch.foot] at hg'
      · rw [List.getElem?_set_ne hil'] at hd; exact hr.mem.disj i l _ d hi hd hil' g hgf hg')
    (fun g hg => by
      have hgf : g ∈ (Ch.own e sz cap' xs).rfoot (β i) := hg
      refine .inr fun l d hd hg' => ?_
      by_cases hil' : i = l
      · subst hil'; rw [List.getElem?_set_self hil] at hd; cases hd; simp [Ch.foot] at hg'
      · rw [List.getElem?_set_ne hil'] at hd; exact hr.mem.disj l i d _ hd hi (fun e => hil' e.symm) g hg' hgf)
    trivial (fun β' _ _ => hr.mem.sat i _ hi)
  rw [hlenS] at h1 h2
  have hj' : (σ.set i .dead ++ [Ch.own e sz cap' xs])[j]? = some (.blk t [c0, .sl i 0 n cap]) := by
    rw [List.getElem?_append_left (by simpa using hjl), List.getElem?_set_ne hij]; exact hj
  have hw := h3.wf _ (List.mem_of_getElem? hj')
  refine ⟨β', hr.defers, hr.size, Knows.ext hr.frwf h1 hr.knows, fun x hx => FV.wf_mono (by simp) (hr.frwf x hx), ?_, hr.same, fun i hi => (h1 i (Nat.lt_of_lt_of_le hi hr.fits)).trans (hr.agree i hi), by have := hr.fits; simp; omega, ?_⟩
  · refine h3.weak hj' (fun g hg => hg) (fun g hg => hg) ?_ ?_
    · intro x hx
      simp only [List.mem_cons, List.not_mem_nil, or_false] at hx
      rcases hx with rfl | rfl
      · exact hw _ (by simp)
      · show σ.length < _
        simp
    · have hs := h3.sat j _ hj'
      simp only [Ch.sat] at hs ⊢
      refine ⟨hs.1, ?_⟩
      rw [hs.2]
      simp [SV.den, h2, h1 i hil]
  · intro l c hl g hg
    by_cases hjl' : j = l
    · subst hjl'
      rw [List.getElem?_set_self (by simp; omega)] at hl
      cases hl
      have hg' : g ∈ (Ch.blk t [c0, .sl i 0 n cap]).rfoot (β' j) := hg
      rw [h1 j hjl] at hg'
      exact hr.src j _ hj g hg'
    · rw [List.getElem?_set_ne hjl'] at hl
      rcases append_get hl with ⟨hl', hd'⟩ | ⟨rfl, rfl⟩
      · rw [h1 l (by simpa using hl')] at hg
        by_cases hil' : i = l
        · subst hil'; rw [List.getElem?_set_self hil] at hd'; cases hd'; simp [Ch.rfoot, Ch.foot] at hg
        · rw [List.getElem?_set_ne hil'] at hd'; exact hr.src l c hd' g hg
      · rw [hlenS, h2] at hg
        exact hr.src i _ hi g hg
end
end Go.Sx
namespace Go.Proofs
open Go Go.Sx
set_option maxRecDepth 10000
theorem getD_ext {a b : List Int} (hl : a.length = b.length) (h : ∀ j, a.getD j 0 = b.getD j 0) : a = b := by
  apply List.ext_getElem hl
  intro j h1 h2
  have := h j
  simpa [h1, h2] using this
theorem getD_byt (m : Ram) (i : Nat) : 0 ≤ m.l.getD i 0 ∧ m.l.getD i 0 < 256 := by
  by_cases h : i < m.l.length
  · rw [List.getD_eq_getElem?_getD, List.getElem?_eq_getElem h]; exact m.byt _ (List.getElem_mem h)
  · rw [List.getD_eq_getElem?_getD, List.getElem?_eq_none (by omega)]; exact ⟨by simp, by simp⟩
theorem byK_word {m : Ram} {i : Nat} (k : Nat) (hk : k < 4) : byK (getW m.l i) k = m.l.getD (i + k) 0 := by
  have h0 := getD_byt m i
  have h1 := getD_byt m (i + 1)
  have h2 := getD_byt m (i + 2)
  have h3 := getD_byt m (i + 3)
  unfold byK getW
  rw [Uw_Wd]
  have p0 : (256 : Int) ^ 0 = 1 := rfl
  have p1 : (256 : Int) ^ 1 = 256 := rfl
  have p2 : (256 : Int) ^ 2 = 65536 := rfl
  have p3 : (256 : Int) ^ 3 = 16777216 := rfl
  have hk' : k = 0 ∨ k = 1 ∨ k = 2 ∨ k = 3 := by omega
  rcases hk' with rfl | rfl | rfl | rfl
  · rw [p0]; show _ / 1 % 256 = m.l.getD i 0; omega
  · rw [p1]; omega
  · rw [p2]; omega
  · rw [p3]; omega
theorem word_eq {m : Ram} {a : Int} (ha : wBad m a = false) : m.word a = getW m.l (ofAt (wAt a)).toNat := by unfold Ram.word; rw [ha]; rfl
theorem setW_back {l : List Int} {i : Nat} {u v : Int} (h : i + 4 ≤ l.length) (hu : ∀ k, k < 4 → byK u k = l.getD (i + k) 0) : setW (setW l i v) i u = l := by
  have hl1 : (setW l i v).length = l.length := stW_length h 4 (by decide)
  have h' : i + 4 ≤ (setW l i v).length := by rw [hl1]; exact h
  apply getD_ext ((stW_length h' 4 (by decide)).trans hl1)
  intro j
  have e1 := stW_get (v := u) h' 4 (by decide) j
  have e2 := stW_get (v := v) h 4 (by decide) j
  refine e1.trans ?_
  split
  · rw [hu _ (by omega)]; congr 1; omega
  · rename_i hn; exact e2.trans (if_neg hn)
/-- What is written over is brought back. -/
theorem set_back (m : Ram) (a v : Int) : (m.set a v).set a (m.word a) = m := by
  cases ha : wBad m a with
  | true => rw [set_bad ha, set_bad ha]
  | false =>
    apply Ram.ext
    rw [set_ok (by rw [set_wBad]; exact ha), set_ok ha, word_eq ha]
    exact setW_back (wBad_nat ha) fun k hk => byK_word k hk
/-- The tape: what was written over, the first one first. -/
def tapV : List (Int × Int) → List Value
  | [] => []
  | x :: t => .int .i32 x.1 :: .int .i32 x.2 :: tapV t
theorem tapV_app (a b : List (Int × Int)) : tapV (a ++ b) = tapV a ++ tapV b := by
  induction a with
  | nil => rfl
  | cons x t ih => rw [List.cons_append, tapV, ih]; rfl
theorem tapV_len (a : List (Int × Int)) : (tapV a).length = a.length * 2 := by
  induction a with
  | nil => rfl
  | cons x t ih => simp only [tapV, List.length_cons, ih]; omega
theorem tapV_one (a : List (Int × Int)) : ∀ u ∈ tapV a, u.oneCell' = true := by
  induction a with
  | nil => intro u hu; cases hu
  | cons x t ih =>
    intro u hu
    simp only [tapV, List.mem_cons] at hu
    rcases hu with rfl | rfl | hu
    · rfl
    · rfl
    · exact ih u hu
def undT (T : List (Int × Int)) (m : Ram) : Ram := T.foldr (fun x n => n.set x.1 x.2) m
theorem undT_app (T : List (Int × Int)) (x : Int × Int) (m : Ram) : undT (T ++ [x]) m = undT T (m.set x.1 x.2) := by unfold undT; rw [List.foldr_append]; rfl
/-- A tape that may follow: it leads back to the same memory, and has at most n words more. -/
structure Tp (n : Nat) (T : List (Int × Int)) (m : Ram) (T' : List (Int × Int)) (m' : Ram) : Prop where
  back : undT T' m' = undT T m
  len : T'.length ≤ T.length + n
  ok : (∀ x ∈ T, I32 x.1 ∧ I32 x.2) → ∀ x ∈ T', I32 x.1 ∧ I32 x.2
  sz : m'.l.length = m.l.length
theorem Tp.refl (n : Nat) (T : List (Int × Int)) (m : Ram) : Tp n T m T m := ⟨rfl, by omega, fun h => h, rfl⟩
theorem Tp.trans {n k : Nat} {T T1 T2 : List (Int × Int)} {m m1 m2 : Ram} (h : Tp n T m T1 m1) (h' : Tp k T1 m1 T2 m2) : Tp (n + k) T m T2 m2 := ⟨h'.back.trans h.back, by have := h.len; have := h'.len; omega, fun q => h'.ok (h.ok q), h'.sz.trans h.sz⟩
theorem Tp.mono {n k : Nat} {T T1 : List (Int × Int)} {m m1 : Ram} (h : Tp n T m T1 m1) (hk : n ≤ k) : Tp k T m T1 m1 := ⟨h.back, by have := h.len; omega, h.ok, h.sz⟩
theorem Tp.set (T : List (Int × Int)) (m : Ram) {a v : Int} (ha : I32 a) : Tp 1 T m (T ++ [(a, m.word a)]) (m.set a v) := by
  refine ⟨?_, by simp, fun h x hx => ?_, set_len _ _ _⟩
  · rw [undT_app, set_back]
  · rcases List.mem_append.1 hx with hx | hx
    · exact h x hx
    · rw [List.mem_singleton.1 hx]; exact ⟨ha, word_I32 _ _⟩
abbrev tT (i n cap : Nat) : Ch := .blk 115 [.loc 1 0, .sl i 0 n cap]
abbrev tR (cap : Nat) (T : List (Int × Int)) : Ch := .own 22 2 cap (tapV T)
abbrev tB (n : Nat) : Ch := .blk 33 [.sl 3 0 n n]
theorem tvalid_c (m : Ram) (w : Int) (hw : I32 w) : Con Try.prog f_timer_valid [.s (.loc 0 0), .s (.int .i32 w)] [mBox m.l.length, mOwn m.l] (.ret (.t (.s (.bool (validB m w)))) [mBox m.l.length, mOwn m.l]) := by
  intro K hK
  refine enter fn_timer_valid rfl nt_timer_valid rfl rfl (fun φ w0 β0 F => ?_)
  refine c_run tt_ok ctSz_ok k_timer_valid [] 60 (by kernel_rfl) ?_
  have e : (bif bits .and .i32 w 3 == 0 then decide (IntKind.i64.wrap (IntKind.i64.wrap w - -2147483648) ≥ 20) else false) = (bif w % 4 == 0 then decide (ofAt w ≥ 20) else false) := by
    unfold I32 at hw
    rw [and3_i32, wrap64 (n := w) (by omega) (by omega), wrap64 (by omega) (by omega)]; rfl
  have hn := m.hi
  refine ⟨fun h => ?_, fun h => ?_⟩
  · refine fin_k tt_ok (rs := rs_timer_valid) rfl rfl hK [0, 1] (t1b ?_) rfl rfl rfl rfl rfl
    rw [e]
    unfold validB
    rw [e] at h
    rw [h]
    unfold I32 at hw
    rw [wrap64 (n := w) (by omega) (by omega), wrap64 (n := w - -2147483648) (by omega) (by omega), wrap64 (by omega) (by omega)]; rfl
  · have h' : (bif w % 4 == 0 then decide (ofAt w ≥ 20) else false) = false := by rw [← e]; exact h
    refine ⟨fun h' => absurd (h.symm.trans h') (by decide), fun _ => ⟨h, ?_⟩⟩
    refine fin_k tt_ok (rs := rs_timer_valid) rfl rfl hK [0, 1] ?_ rfl rfl rfl rfl rfl
    refine t1b ?_
    unfold validB
    rw [h']; rfl
noncomputable abbrev eTval : Ent := .st (conS (P := Try.prog) (f := f_timer_valid) fun cargs σ0 => match cargs, σ0 with
  | [.s (.loc 0 0), .s (.int .i32 w)], [.blk 33 [.sl 1 0 n n'], .own 5 1 c xs] => some ⟨.ex Ram fun m => .ask (n = m.l.length ∧ n' = m.l.length ∧ c = m.l.length ∧ xs = bytesI m.l ∧ I32 w)
      (.ret (.t (.s (.bool (validB m w)))) [mBox m.l.length, mOwn m.l]), fun K h => by
      obtain ⟨m, ⟨e1, e2, e3, e4, h1⟩, h⟩ := h
      subst e1; subst e2; subst e3; subst e4
      exact tvalid_c m w h1 K h⟩
  | _, _ => none)
end Go.Proofs

namespace Go.Proofs
open Go Go.Sx
set_option maxRecDepth 10000
noncomputable abbrev ctTS : CT := [(f_timer_tape_get, in_timer_tape_get ctWo), (f_mem_Mem_SetWord, eSetWordT)]
theorem ctTS_ok : CTok Try.prog ctTS := ⟨in_timer_tape_get_ok ctWo_ok, con_ok cal_mem_Mem_SetWord _, trivial⟩
theorem set_c (T : List (Int × Int)) (m : Ram) (cap : Nat) (w kk v ad : Int) (had : ad = IntKind.i32.wrap (w + IntKind.i32.wrap (4 * kk))) (hT : T.length ≤ 20000) (_hc : T.length ≤ cap) :
    Con Try.prog f_timer_tape_set [.s (.loc 0 0), .s (.int .i32 w), .s (.int .i32 kk), .s (.int .i32 v)] [tT 2 T.length cap, tB m.l.length, tR cap T, mOwn m.l]
    (.all Nat (fun c => T.length + 1 ≤ c) fun c => .ret (.tup []) [tT 4 (T.length + 1) c, tB (m.set ad v).l.length, .dead, mOwn (m.set ad v).l, tR c (T ++ [(ad, m.word ad)])]) := by
  intro K hK
  subst had
  simp only [tR, tapV_app] at hK
  refine enter fn_timer_tape_set rfl nt_timer_tape_set rfl rfl (fun φ w0 β0 F => ?_)
  refine c_run tt_ok ctTS_ok k_timer_tape_set [] 60 (by kernel_rfl) ?_
  refine c_ways tt_ok ctTS_ok k_timer_tape_set rfl rfl ?_
  repeat' (first | exact trivial | (refine Exists.intro m ?_; refine And.intro ⟨rfl, rfl, rfl, rfl, I32_wrap _⟩ ?_) | (refine And.intro ?_ ?_) | (refine fun _ => ?_))
  all_goals first
    | rfl
    | exact hc
    | exact tapV_len T
    | (rename_i u hu; rcases List.mem_cons.1 (List.mem_of_mem_drop (List.mem_of_mem_take hu)) with rfl | hu; rfl; rcases List.mem_cons.1 hu with rfl | hu; rfl; cases hu)
    | exact Nat.le_refl 2
    | exact (show T.length + 1 ≤ maxLen by simp only [maxLen]; omega)
    | exact (show (T.length + 1) * 8 ≤ 140737488355328 by omega)
    | (rename_i c hc1 hc2; refine e_run tt_ok ctTS_ok k_timer_tape_set [] 60 (by kernel_rfl) ?_; refine ⟨m, ⟨rfl, rfl, rfl, rfl, I32_wrap _⟩, ?_⟩; refine fin_ke tt_ok (rs := rs_timer_tape_set) rfl rfl (hK c hc1) [0, 1, 2, 3, 5] rfl ?_ rfl rfl rfl rfl; rfl)
noncomputable abbrev eTset : Ent := .st (conS (P := Try.prog) (f := f_timer_tape_set) fun cargs σ0 => match cargs, σ0 with
  | [.s (.loc 0 0), .s (.int .i32 w), .s (.int .i32 kk), .s (.int .i32 v)], [.blk 115 [.loc 1 0, .sl 2 0 n cap], .blk 33 [.sl 3 0 k k'], .own 22 2 cap' ys, .own 5 1 c xs] =>
    some ⟨.ex (List (Int × Int) × Ram × Int) fun p => .ask (n = p.1.length ∧ cap' = cap ∧ ys = tapV p.1 ∧ k = p.2.1.l.length ∧ k' = p.2.1.l.length ∧ c = p.2.1.l.length ∧ xs = bytesI p.2.1.l ∧ p.2.2 = IntKind.i32.wrap (w + IntKind.i32.wrap (4 * kk)) ∧ p.1.length ≤ 20000 ∧ p.1.length ≤ cap)
      (.all Nat (fun c => p.1.length + 1 ≤ c) fun c => .ret (.tup []) [tT 4 (p.1.length + 1) c, tB (p.2.1.set p.2.2 v).l.length, .dead, mOwn (p.2.1.set p.2.2 v).l, tR c (p.1 ++ [(p.2.2, p.2.1.word p.2.2)])]), fun K h => by
      obtain ⟨⟨T, m, ad⟩, ⟨e1, e2, e3, e4, e5, e6, e7, e8, e9, e10⟩, h⟩ := h
      dsimp only at e1 e2 e3 e4 e5 e6 e7 e8 e9 e10 h
      subst e1; subst e2; subst e3; subst e4; subst e5; subst e6; subst e7
      exact set_c T m _ w kk v ad e8 e9 e10 K h⟩
  | _, _ => none)
end Go.Proofs

namespace Go.Proofs
open Go Go.Sx
set_option maxRecDepth 10000
def aftB (t u : Int) : Bool := decide (IntKind.i32.wrap (t - u) > 0)
theorem After_c (t u : Int) : Con Try.prog f_word_After [.s (.int .i32 t), .s (.int .i32 u)] [] (.ret (.t (.s (.bool (aftB t u)))) []) := by
  intro K hK
  refine enter fn_word_After rfl nt_word_After rfl rfl (fun φ w0 β0 F => ?_)
  refine c_run tt_ok (ct := []) trivial k_word_After [] 60 (by kernel_rfl) ?_
  exact fin_k tt_ok (rs := rs_word_After) rfl rfl hK [] rfl rfl rfl rfl rfl rfl
def spAfter : List TV → Option (Prop × FV)
  | [.s (.int .i32 a), .s (.int .i32 b)] => some (True, .t (.s (.bool (aftB a b))))
  | _ => none
theorem ceAfter : CEok Try.prog f_word_After spAfter := ⟨cal_word_After, fun args p v h hp => by
  unfold spAfter at h; split at h
  · cases h; exact (After_c _ _).pure
  · cases h⟩
noncomputable abbrev ctLk : CT := [(f_timer_tape_set, eTset)]
theorem ctLk_ok : CTok Try.prog ctLk := ⟨con_ok cal_timer_tape_set _, trivial⟩
def Core.tm (k : Core) (o : Bool) : Int := bif o then k.t1 else k.t0
def Core.ck (k : Core) (o : Bool) : Int := bif o then k.k1 else k.k0
def Core.setT (k : Core) (o : Bool) (w : Int) : Core := bif o then { k with t1 := w } else { k with t0 := w }
def lnkK (k : Core) (bef w : Int) (o : Bool) : Core := bif bef == NP then k.setT o w else k
def lnkM (m : Ram) (bef w : Int) : Ram := bif bef == NP then m else m.set (IntKind.i32.wrap (bef + -16)) w
/-- What comes back with a tape. -/
abbrev oT (v : FV) (n : Nat) (T : List (Int × Int)) (m m' : Ram) : Out := .all (List (Int × Int) × Nat) (fun x => Tp n T m x.1 m' ∧ x.1.length ≤ x.2) fun x => .ret v [tT 4 x.1.length x.2, tB m'.l.length, .dead, mOwn m'.l, tR x.2 x.1]
theorem link_c (T : List (Int × Int)) (m : Ram) (cap : Nat) (k : Core) (bef w p : Int) (hp : p = 0 ∨ p = 1) (hT : T.length ≤ 20000) (hc : T.length ≤ cap) :
    Con Try.prog f_timer_tape_link [.s (.loc 0 0), .agg k.sv, .s (.int .i32 bef), .s (.int .i32 w), .s (.int .i64 p)] [tT 2 T.length cap, tB m.l.length, tR cap T, mOwn m.l]
    (oT (.t (.agg (lnkK k bef w (p == 1)).sv)) 1 T m (lnkM m bef w)) := by
  intro K hK
  rcases hp with rfl | rfl
  all_goals
    refine enter fn_timer_tape_link rfl nt_timer_tape_link rfl rfl (fun φ w0 β0 F => ?_)
    refine c_run tt_ok ctLk_ok k_timer_tape_link [] 60 (by kernel_rfl) ?_
    refine ⟨fun h => ?_, fun h => ?_⟩
    · rw [show lnkM m bef w = m by unfold lnkM; rw [show (bef == NP) = true from h]; rfl] at hK
      unfold lnkK at hK
      rw [show (bef == NP) = true from h] at hK
      show WpE _ _ _ _ _
      refine WpE.into (rowMove 0 2 rfl rfl) ?_
      exact fin_k tt_ok (rs := rs_timer_tape_link) rfl rfl (hK (T, cap) ⟨Tp.refl _ _ _, hc⟩) [0, 1, 2, 3, 6] rfl rfl rfl rfl rfl rfl
    · rw [show lnkM m bef w = m.set (IntKind.i32.wrap (bef + -16)) w by unfold lnkM; rw [show (bef == NP) = false from h]; rfl] at hK
      unfold lnkK at hK
      rw [show (bef == NP) = false from h] at hK
      refine ⟨(T, m, IntKind.i32.wrap (bef + -16)), ⟨rfl, rfl, rfl, rfl, rfl, rfl, rfl, rfl, hT, hc⟩, fun c hc' => ?_⟩
      refine fin_k tt_ok (rs := rs_timer_tape_link) rfl rfl (hK (T ++ [(IntKind.i32.wrap (bef + -16), m.word (IntKind.i32.wrap (bef + -16)))], c) ⟨Tp.set _ _ (I32_wrap _), by simpa using hc'⟩) [0, 1, 2, 3, 6] rfl ?_ rfl rfl rfl rfl
      rw [List.length_append]; rfl
noncomputable abbrev eLink : Ent := .st (conS (P := Try.prog) (f := f_timer_tape_link) fun cargs σ0 => match cargs, σ0 with
  | [.s (.loc 0 0), .agg cs, .s (.int .i32 bef), .s (.int .i32 w), .s (.int .i64 p)], [.blk 115 [.loc 1 0, .sl 2 0 n cap], .blk 33 [.sl 3 0 k k'], .own 22 2 cap' ys, .own 5 1 c xs] => withCore cs fun q hq =>
    some ⟨.ex (List (Int × Int) × Ram) fun y => .ask (n = y.1.length ∧ cap' = cap ∧ ys = tapV y.1 ∧ k = y.2.l.length ∧ k' = y.2.l.length ∧ c = y.2.l.length ∧ xs = bytesI y.2.l ∧ (p = 0 ∨ p = 1) ∧ y.1.length ≤ 20000 ∧ y.1.length ≤ cap)
      (oT (.t (.agg (lnkK q bef w (p == 1)).sv)) 1 y.1 y.2 (lnkM y.2 bef w)), fun K h => by
      obtain ⟨⟨T, m⟩, ⟨e1, e2, e3, e4, e5, e6, e7, e8, e9, e10⟩, h⟩ := h
      dsimp only at e1 e2 e3 e4 e5 e6 e7 e8 e9 e10 h
      subst e1; subst e2; subst e3; subst e4; subst e5; subst e6; subst e7; subst hq
      exact link_c T m _ q bef w p e8 e9 e10 K h⟩
  | _, _ => none)
theorem check_c (m : Ram) (p : Int) (hp : -9223372036854775808 ≤ p ∧ p ≤ 9223372036854775807) : Con Try.prog f_timer_check [.s (.loc 0 0), .s (.int .i64 p)] [mBox m.l.length, mOwn m.l]
    (.ret (.t (.s (.int .i64 (bif priB p then 0 else 2)))) [mBox m.l.length, mOwn m.l]) := by
  intro K hK
  have h0 := m.lo
  refine enter fn_timer_check rfl nt_timer_check rfl rfl (fun φ w0 β0 F => ?_)
  refine c_run tt_ok ctSz_ok k_timer_check [100010] 60 (by kernel_rfl) ?_
  refine ⟨fun h => ?_, fun _ => ⟨.t (.s (.bool (!priB p))), fun β => told_bl (or1B hp), rfl, fun h1 => ?_, fun h1 => ?_⟩⟩
  · exfalso; have := of_decide_eq_true h; omega
  · rw [show priB p = false by simpa using h1] at hK
    exact fin_k tt_ok (rs := rs_timer_check) rfl rfl hK [0, 1] rfl rfl rfl rfl rfl rfl
  · rw [show priB p = true by simpa using h1] at hK
    exact fin_k tt_ok (rs := rs_timer_check) rfl rfl hK [0, 1] rfl rfl rfl rfl rfl rfl
noncomputable abbrev eCheck : Ent := .st (conS (P := Try.prog) (f := f_timer_check) fun cargs σ0 => match cargs, σ0 with
  | [.s (.loc 0 0), .s (.int .i64 p)], [.blk 33 [.sl 1 0 n n'], .own 5 1 c xs] => some ⟨.ex Ram fun m => .ask (n = m.l.length ∧ n' = m.l.length ∧ c = m.l.length ∧ xs = bytesI m.l ∧ -9223372036854775808 ≤ p ∧ p ≤ 9223372036854775807)
      (.ret (.t (.s (.int .i64 (bif priB p then 0 else 2)))) [mBox m.l.length, mOwn m.l]), fun K h => by
      obtain ⟨m, ⟨e1, e2, e3, e4, h1⟩, h⟩ := h
      subst e1; subst e2; subst e3; subst e4
      exact check_c m p h1 K h⟩
  | _, _ => none)
end Go.Proofs

namespace Go.Sx
open Go
theorem finM0p {X : Cx} {fr : Fr} {σ : List Ch} {fn : Func} {R : Ending → World → Prop} {c : List PanicEntry} (hds : X.ds = [])
    (h : WpE X (bodyPost X.P fn R) (.panic c) fr σ) : WpE X (bodyPostM (fz none) 0 X.P fn R) (.panic c) fr σ := by
  refine ⟨fun β a w hr => ?_⟩
  have hq := h.h β a w hr
  have hd := hr.defers.trans hds
  obtain ⟨_, h2⟩ := (hq : _ ∧ _)
  show LeavesInM (fz none) 0 X.P fn a.tmps R a.defers (.panicking c) w
  rw [hd]; exact h2
end Go.Sx
namespace Go.Proofs
open Go Go.Sx
set_option maxRecDepth 10000
theorem told_il {a b : Int} {β : Nat → Bd} (h : a = b) : (FV.t (.s (.int .i64 a))).den β = (FV.t (.s (.int .i64 b))).den β := by rw [h]
/-- What this package panics with. -/
abbrev chT : List PanicEntry := [{ v := .iface 85 (.agg #[]), recovered := false }]
/-- Where a process goes: behind which one, ahead of which one. -/
def insL : Nat → Ram → Int → Int → Int → Option (Int × Int)
  | 0, _, _, _, _ => none
  | f + 1, m, at', bef, w => bif w == NP then some (bef, NP) else bif bif f == 0 then true else !validB m w then none
      else bif aftB (m.word (IntKind.i32.wrap (w + -20))) at' then some (bef, w) else insL f m at' w (m.word (IntKind.i32.wrap (w + -16)))
def insA (m : Ram) (w at' nxt : Int) : Ram := (m.set (IntKind.i32.wrap (w + -20)) at').set (IntKind.i32.wrap (w + -16)) nxt
def insE (k : Core) (m : Ram) (w at' p : Int) : Option (Int × Int) → Option (Core × Ram)
  | none => none
  | some (bef, nxt) => some (lnkK k bef w (p == 1), lnkM (insA m w at' nxt) bef w)
def insR (k : Core) (m : Ram) (w at' p : Int) : Option (Core × Ram) := bif !validB m w then none else insE k m w at' p (insL queN m at' NP (k.tm (p == 1)))
/-- What comes back with a tape, or the panic. -/
def oX (n : Nat) (T : List (Int × Int)) (m : Ram) : Option (Core × Ram) → Out
  | some r => oT (.t (.agg r.1.sv)) n T m r.2
  | none => .all (List (Int × Int) × Nat × Ram) (fun x => Tp n T m x.1 x.2.2 ∧ x.1.length ≤ x.2.1) fun x => .ret pan [tT 4 x.1.length x.2.1, tB x.2.2.l.length, .dead, mOwn x.2.2.l, tR x.2.1 x.1]
noncomputable abbrev ctTi : CT := [(f_timer_valid, eTval), (f_timer_walk, in_timer_walk []), (f_timer_tape_get, in_timer_tape_get ctWo), (f_word_After, .pure spAfter), (f_timer_tape_set, eTset), (f_timer_tape_link, eLink)]
theorem ctTi_ok : CTok Try.prog ctTi := ⟨con_ok cal_timer_valid _, in_timer_walk_ok (ct := []) trivial, in_timer_tape_get_ok ctWo_ok, ceAfter, con_ok cal_timer_tape_set _, con_ok cal_timer_tape_link _, trivial⟩
set_option maxHeartbeats 1000000 in
theorem insert_c (T : List (Int × Int)) (m : Ram) (cap : Nat) (k : Core) (w at' p : Int) (hok' : k.ok) (hw : I32 w) (hp : p = 0 ∨ p = 1) (hT : T.length ≤ 19990) (hc : T.length ≤ cap) :
    ConX Try.prog chT f_timer_tape_insert [.s (.loc 0 0), .agg k.sv, .s (.int .i32 w), .s (.int .i32 at'), .s (.int .i64 p)] [tT 2 T.length cap, tB m.l.length, tR cap T, mOwn m.l]
    (oX 3 T m (insR k m w at' p)) := by
  intro K hK
  rcases hp with rfl | rfl
  · obtain ⟨R, hR⟩ : ∃ R, insR k m w at' 0 = R := ⟨_, rfl⟩
    rw [hR] at hK
    unfold insR at hR
    rw [show k.tm ((0 : Int) == 1) = k.t0 from rfl] at hR
    refine enterMX fn_timer_tape_insert rfl nt_timer_tape_insert rfl rfl (fun φ w0 β0 F => ?_)
    refine c_run tt_ok ctTi_ok k_timer_tape_insert [] 90 (by kernel_rfl) ?_
    refine ⟨m, ⟨rfl, rfl, rfl, rfl, hw⟩, fun h1 => ?_, fun h1 => ?_⟩
    · rw [show (!validB m w) = true from h1, cond_true] at hR
      subst hR
      refine l_iface rfl rfl trivial rfl rfl rfl rfl rfl ?_
      refine l_panic rfl trivial rfl ?_
      refine e_run tt_ok ctTi_ok k_timer_tape_insert [] 60 (by kernel_rfl) ?_
      refine finM0p rfl ?_
      refine WpE.into (rowMove 0 2 rfl rfl) ?_
      exact fin_pan (hK (T, cap, m) ⟨Tp.refl _ _ _, hc⟩) [0, 1, 2, 3, 8] rfl rfl rfl rfl
    · rw [show (!validB m w) = false from h1, cond_false] at hR
      show WpC _ _ _ _ _
      refine c_range 13 rfl rfl rfl rfl rfl rfl cal_timer_walk_1 fn_timer_walk_1 rfl nt_timer_walk_1 rfl rfl rfl (fun G hok => ?_)
      refine c_run tt_ok ctTi_ok k_timer_walk_1 [] 60 (by kernel_rfl) ?_
      show WpC _ _ _ _ _
      refine c_loop (α := Int × Int × Nat) (fun x => I32 x.2.1 ∧ (1 ≤ x.2.2 ∧ x.2.2 ≤ 1025) ∧ insL queN m at' NP k.t0 = insL x.2.2 m at' x.1 x.2.1) (fun x => x.2.2)
        (fun x => [(0, .t (.s (.raw (.func (.yield G.l) #[] #[]))), none), (1, .t (.s (.loc 10 0)), none), (2, .t (.s (.loc 12 0)), none), (3, .t (.s (.loc 11 0)), none), (5, .t (.s (.int .i64 (1025 - (x.2.2 : Int)))), none), (6, .t (.s (.int .i32 x.2.1)), none)])
        (fun x => [tT 2 T.length cap, tB m.l.length, tR cap T, mOwn m.l, .blk 75 [.loc 0 0], .blk 26 k.sv, .blk 21 [.int .i32 at'], .blk 26 Core.zero.sv, .blk 21 [.int .i32 x.1], .blk 21 [.int .i32 NP], .blk 26 k.sv, .blk 75 [.loc 0 0], .blk 3 [.int .i64 0]]) (NP, k.t0, queN) ?_ ?_ ?_
      · exact ⟨hok'.t0, by show 1 ≤ queN ∧ queN ≤ 1025; rw [queN_eq]; omega, rfl⟩
      · refine into [0, 1, 2, 3, 4, 5, 6, 7, 8, 9, 10, 11, 12] ⟨⟨_, rfl, rfl⟩, ⟨_, rfl, rfl⟩, ⟨_, rfl, rfl⟩, ⟨_, rfl, rfl⟩, ⟨_, rfl, ?_⟩, ⟨_, rfl, rfl⟩, trivial⟩ ⟨_, rfl, rfl⟩ rfl rfl rfl rfl
        rw [queN_eq]; rfl
      · rintro ⟨bef, q, f⟩ ⟨hq, hf, hlaw⟩
        simp only at hq hf hlaw
        obtain ⟨f, rfl⟩ : ∃ f', f = f' + 1 := ⟨f - 1, by omega⟩
        dsimp only
        have hn : IntKind.i64.wrap (1025 - ((f + 1 : Nat) : Int) + 1) = 1025 - (f : Int) := by rw [wrap64 (by omega) (by omega)]; omega
        refine c_run' tt_ok ctTi_ok k_timer_walk_1 [33, 100017, 100019] 60 (by kernel_rfl) (by kernel_rfl) ?_
        refine ⟨fun h2 => ⟨.t (.s (.int .i64 (1025 - (f : Int)))), fun β => told_il hn.symm, rfl, ?_⟩, fun h2 => ?_⟩
        · rcases Nat.eq_zero_or_pos f with rfl | hf0
          · refine ⟨.t (.s (.bool true)), fun β => told_bl rfl, rfl, ?_⟩
            refine ⟨fun h => absurd h (by decide), fun _ => ⟨fun h => absurd h (by decide), fun _ => ⟨rfl, fun _ => ?_, fun h => absurd h (by decide)⟩⟩⟩
            rw [insL, show (q == NP) = false by simpa [NP] using h2, cond_false, show ((0 : Nat) == 0) = true from rfl, cond_true, cond_true] at hlaw
            rw [hlaw] at hR
            replace hR : none = R := hR
            subst hR
            refine l_iface rfl rfl trivial rfl rfl rfl rfl rfl ?_
            refine l_panic rfl trivial rfl ?_
            refine e_run tt_ok ctTi_ok k_timer_walk_1 [] 60 (by kernel_rfl) ?_
            refine it_panic hok ?_
            refine e_run tt_ok ctTi_ok k_timer_tape_insert [] 60 (by kernel_rfl) ?_
            refine finM hok rfl (.inr (.inr ⟨_, rfl⟩)) ?_
            refine WpE.into (rowMove 0 2 rfl rfl) ?_
            exact fin_pan (hK (T, cap, m) ⟨Tp.refl _ _ _, hc⟩) [0, 1, 2, 3, 13] rfl rfl rfl rfl
          · have hf0' : (f == 0) = false := by simp; omega
            rw [insL, show (q == NP) = false by simpa [NP] using h2, cond_false, hf0', cond_false] at hlaw
            refine ⟨.t (.s (.bool false)), fun β => told_bl (by simp; omega), rfl, ?_⟩
            refine ⟨fun h3 => ⟨m, ⟨rfl, rfl, rfl, rfl, hq⟩, fun h4 => ?_, fun h4 => ?_⟩, fun h3 => absurd h3 (by decide)⟩
            · rw [show (!validB m q) = true from h4, cond_true] at hlaw
              rw [hlaw] at hR
              replace hR : none = R := hR
              subst hR
              refine l_iface rfl rfl trivial rfl rfl rfl rfl rfl ?_
              refine l_panic rfl trivial rfl ?_
              refine e_run tt_ok ctTi_ok k_timer_walk_1 [] 60 (by kernel_rfl) ?_
              refine it_panic hok ?_
              refine e_run tt_ok ctTi_ok k_timer_tape_insert [] 60 (by kernel_rfl) ?_
              refine finM hok rfl (.inr (.inr ⟨_, rfl⟩)) ?_
              refine WpE.into (rowMove 0 2 rfl rfl) ?_
              exact fin_pan (hK (T, cap, m) ⟨Tp.refl _ _ _, hc⟩) [0, 1, 2, 3, 13] rfl rfl rfl rfl
            · rw [show (!validB m q) = false from h4, cond_false] at hlaw
              show WpL _ _ _ _ _ _
              refine l_yield hok rfl rfl rfl trivial rfl rfl rfl rfl rfl (fun D => ?_)
              refine c_run tt_ok ctTi_ok k_timer_tape_insert [] 60 (by kernel_rfl) ?_
              show WpE _ _ _ _ _
              refine rnd_begin hok D ?_
              refine c_run tt_ok ctTi_ok k_timer_tape_insert [] 60 (by kernel_rfl) ?_
              refine c_ways tt_ok ctTi_ok k_timer_tape_insert rfl rfl ?_
              repeat' (first | exact trivial | (refine Exists.intro m ?_; refine And.intro ⟨rfl, rfl, rfl, rfl, I32_wrap _⟩ ?_) | (refine And.intro ?_ ?_) | (refine fun _ => ?_))
              all_goals
                refine e_run tt_ok ctTi_ok k_timer_tape_insert [] 60 (by kernel_rfl) ?_
                refine ⟨fun h5 => ?_, fun h5 => ?_⟩
                · rw [show aftB (m.word (IntKind.i32.wrap (q + -20))) at' = true from h5, cond_true] at hlaw
                  rw [hlaw] at hR
                  replace hR : some (lnkK k bef w ((0 : Int) == 1), lnkM (insA m w at' q) bef w) = R := hR
                  subst hR
                  show WpE _ _ _ _ _
                  refine rnd_end hok D rfl rfl (.inr (.inr ⟨0, rfl, rfl⟩)) ?_
                  refine l_run tt_ok ctTi_ok k_timer_walk_1 [] 60 (by kernel_rfl) (by kernel_rfl) ?_
                  refine ⟨fun _ => ?_, fun h => absurd h (by simp)⟩
                  show WpE _ _ _ _ _
                  refine it_end hok (.inr rfl) rfl (by simp [stOf]) rfl ?_
                  refine e_run tt_ok ctTi_ok k_timer_tape_insert [] 60 (by kernel_rfl) ?_
                  refine ⟨(T, m, IntKind.i32.wrap (w + -20)), ⟨rfl, rfl, rfl, rfl, rfl, rfl, rfl, rfl, by dsimp only; omega, hc⟩, fun c1 hc1 => ?_⟩
                  refine ⟨(T ++ [(IntKind.i32.wrap (w + -20), m.word (IntKind.i32.wrap (w + -20)))], m.set (IntKind.i32.wrap (w + -20)) at', IntKind.i32.wrap (w + -16)), ⟨by simp, rfl, rfl, rfl, rfl, rfl, rfl, rfl, by simp; omega, by simpa using hc1⟩, fun c2 hc2 => ?_⟩
                  refine ⟨(T ++ [(IntKind.i32.wrap (w + -20), m.word (IntKind.i32.wrap (w + -20)))] ++ [(IntKind.i32.wrap (w + -16), (m.set (IntKind.i32.wrap (w + -20)) at').word (IntKind.i32.wrap (w + -16)))], insA m w at' q), ⟨by simp, rfl, rfl, rfl, rfl, rfl, rfl, .inl rfl, by simp; omega, by simpa using hc2⟩, fun x hx => ?_⟩
                  show WpE _ _ _ _ _
                  refine finM hok rfl (.inr (.inl rfl)) ?_
                  exact fin_kX tt_ok (rs := rs_timer_tape_insert) rfl rfl (hK x ⟨((Tp.set T m (I32_wrap _)).trans (Tp.set _ _ (I32_wrap _))).trans hx.1, hx.2⟩) [0, 1, 2, 3, 15] rfl rfl rfl rfl rfl rfl rfl
                · rw [show aftB (m.word (IntKind.i32.wrap (q + -20))) at' = false from h5, cond_false] at hlaw
                  show WpE _ _ _ _ _
                  refine rnd_end hok D rfl rfl (.inl ⟨rfl, rfl⟩) ?_
                  refine l_run tt_ok ctTi_ok k_timer_walk_1 [] 60 (by kernel_rfl) (by kernel_rfl) ?_
                  refine ⟨fun h => absurd h (by simp), fun _ => ⟨m, ⟨rfl, rfl, rfl, rfl, I32_wrap _⟩, ?_⟩⟩
                  refine e_again (q, m.word (IntKind.i32.wrap (q + -16)), f) ⟨word_I32 _ _, by dsimp only; omega, hlaw⟩ (Nat.lt_succ_self f) (into [0, 1, 2, 3, 4, 5, 6, 7, 8, 9, 10, 11, 12] ⟨⟨_, rfl, rfl⟩, ⟨_, rfl, rfl⟩, ⟨_, rfl, rfl⟩, ⟨_, rfl, rfl⟩, ⟨_, rfl, rfl⟩, ⟨_, rfl, rfl⟩, trivial⟩ ⟨_, rfl, rfl⟩ rfl rfl rfl rfl)
        · rw [insL, show (q == NP) = true by simpa [NP] using h2, cond_true] at hlaw
          rw [hlaw] at hR
          replace hR : some (lnkK k bef w ((0 : Int) == 1), lnkM (insA m w at' NP) bef w) = R := hR
          subst hR
          show WpE _ _ _ _ _
          refine it_end hok (.inl rfl) rfl (by simp) rfl ?_
          refine e_run tt_ok ctTi_ok k_timer_tape_insert [] 60 (by kernel_rfl) ?_
          refine ⟨(T, m, IntKind.i32.wrap (w + -20)), ⟨rfl, rfl, rfl, rfl, rfl, rfl, rfl, rfl, by dsimp only; omega, hc⟩, fun c1 hc1 => ?_⟩
          refine ⟨(T ++ [(IntKind.i32.wrap (w + -20), m.word (IntKind.i32.wrap (w + -20)))], m.set (IntKind.i32.wrap (w + -20)) at', IntKind.i32.wrap (w + -16)), ⟨by simp, rfl, rfl, rfl, rfl, rfl, rfl, rfl, by simp; omega, by simpa using hc1⟩, fun c2 hc2 => ?_⟩
          refine ⟨(T ++ [(IntKind.i32.wrap (w + -20), m.word (IntKind.i32.wrap (w + -20)))] ++ [(IntKind.i32.wrap (w + -16), (m.set (IntKind.i32.wrap (w + -20)) at').word (IntKind.i32.wrap (w + -16)))], insA m w at' NP), ⟨by simp, rfl, rfl, rfl, rfl, rfl, rfl, .inl rfl, by simp; omega, by simpa using hc2⟩, fun x hx => ?_⟩
          show WpE _ _ _ _ _
          refine finM hok rfl (.inr (.inl rfl)) ?_
          exact fin_kX tt_ok (rs := rs_timer_tape_insert) rfl rfl (hK x ⟨((Tp.set T m (I32_wrap _)).trans (Tp.set _ _ (I32_wrap _))).trans hx.1, hx.2⟩) [0, 1, 2, 3, 15] rfl rfl rfl rfl rfl rfl rfl
  · obtain ⟨R, hR⟩ : ∃ R, insR k m w at' 1 = R := ⟨_, rfl⟩
    rw [hR] at hK
    unfold insR at hR
    rw [show k.tm ((1 : Int) == 1) = k.t1 from rfl] at hR
    refine enterMX fn_timer_tape_insert rfl nt_timer_tape_insert rfl rfl (fun φ w0 β0 F => ?_)
    refine c_run tt_ok ctTi_ok k_timer_tape_insert [] 90 (by kernel_rfl) ?_
    refine ⟨m, ⟨rfl, rfl, rfl, rfl, hw⟩, fun h1 => ?_, fun h1 => ?_⟩
    · rw [show (!validB m w) = true from h1, cond_true] at hR
      subst hR
      refine l_iface rfl rfl trivial rfl rfl rfl rfl rfl ?_
      refine l_panic rfl trivial rfl ?_
      refine e_run tt_ok ctTi_ok k_timer_tape_insert [] 60 (by kernel_rfl) ?_
      refine finM0p rfl ?_
      refine WpE.into (rowMove 0 2 rfl rfl) ?_
      exact fin_pan (hK (T, cap, m) ⟨Tp.refl _ _ _, hc⟩) [0, 1, 2, 3, 8] rfl rfl rfl rfl
    · rw [show (!validB m w) = false from h1, cond_false] at hR
      show WpC _ _ _ _ _
      refine c_range 13 rfl rfl rfl rfl rfl rfl cal_timer_walk_1 fn_timer_walk_1 rfl nt_timer_walk_1 rfl rfl rfl (fun G hok => ?_)
      refine c_run tt_ok ctTi_ok k_timer_walk_1 [] 60 (by kernel_rfl) ?_
      show WpC _ _ _ _ _
      refine c_loop (α := Int × Int × Nat) (fun x => I32 x.2.1 ∧ (1 ≤ x.2.2 ∧ x.2.2 ≤ 1025) ∧ insL queN m at' NP k.t1 = insL x.2.2 m at' x.1 x.2.1) (fun x => x.2.2)
        (fun x => [(0, .t (.s (.raw (.func (.yield G.l) #[] #[]))), none), (1, .t (.s (.loc 10 0)), none), (2, .t (.s (.loc 12 0)), none), (3, .t (.s (.loc 11 0)), none), (5, .t (.s (.int .i64 (1025 - (x.2.2 : Int)))), none), (6, .t (.s (.int .i32 x.2.1)), none)])
        (fun x => [tT 2 T.length cap, tB m.l.length, tR cap T, mOwn m.l, .blk 75 [.loc 0 0], .blk 26 k.sv, .blk 21 [.int .i32 at'], .blk 26 Core.zero.sv, .blk 21 [.int .i32 x.1], .blk 21 [.int .i32 NP], .blk 26 k.sv, .blk 75 [.loc 0 0], .blk 3 [.int .i64 1]]) (NP, k.t1, queN) ?_ ?_ ?_
      · exact ⟨hok'.t1, by show 1 ≤ queN ∧ queN ≤ 1025; rw [queN_eq]; omega, rfl⟩
      · refine into [0, 1, 2, 3, 4, 5, 6, 7, 8, 9, 10, 11, 12] ⟨⟨_, rfl, rfl⟩, ⟨_, rfl, rfl⟩, ⟨_, rfl, rfl⟩, ⟨_, rfl, rfl⟩, ⟨_, rfl, ?_⟩, ⟨_, rfl, rfl⟩, trivial⟩ ⟨_, rfl, rfl⟩ rfl rfl rfl rfl
        rw [queN_eq]; rfl
      · rintro ⟨bef, q, f⟩ ⟨hq, hf, hlaw⟩
        simp only at hq hf hlaw
        obtain ⟨f, rfl⟩ : ∃ f', f = f' + 1 := ⟨f - 1, by omega⟩
        dsimp only
        have hn : IntKind.i64.wrap (1025 - ((f + 1 : Nat) : Int) + 1) = 1025 - (f : Int) := by rw [wrap64 (by omega) (by omega)]; omega
        refine c_run' tt_ok ctTi_ok k_timer_walk_1 [33, 100017, 100019] 60 (by kernel_rfl) (by kernel_rfl) ?_
        refine ⟨fun h2 => ⟨.t (.s (.int .i64 (1025 - (f : Int)))), fun β => told_il hn.symm, rfl, ?_⟩, fun h2 => ?_⟩
        · rcases Nat.eq_zero_or_pos f with rfl | hf0
          · refine ⟨.t (.s (.bool true)), fun β => told_bl rfl, rfl, ?_⟩
            refine ⟨fun h => absurd h (by decide), fun _ => ⟨fun h => absurd h (by decide), fun _ => ⟨rfl, fun _ => ?_, fun h => absurd h (by decide)⟩⟩⟩
            rw [insL, show (q == NP) = false by simpa [NP] using h2, cond_false, show ((0 : Nat) == 0) = true from rfl, cond_true, cond_true] at hlaw
            rw [hlaw] at hR
            replace hR : none = R := hR
            subst hR
            refine l_iface rfl rfl trivial rfl rfl rfl rfl rfl ?_
            refine l_panic rfl trivial rfl ?_
            refine e_run tt_ok ctTi_ok k_timer_walk_1 [] 60 (by kernel_rfl) ?_
            refine it_panic hok ?_
            refine e_run tt_ok ctTi_ok k_timer_tape_insert [] 60 (by kernel_rfl) ?_
            refine finM hok rfl (.inr (.inr ⟨_, rfl⟩)) ?_
            refine WpE.into (rowMove 0 2 rfl rfl) ?_
            exact fin_pan (hK (T, cap, m) ⟨Tp.refl _ _ _, hc⟩) [0, 1, 2, 3, 13] rfl rfl rfl rfl
          · have hf0' : (f == 0) = false := by simp; omega
            rw [insL, show (q == NP) = false by simpa [NP] using h2, cond_false, hf0', cond_false] at hlaw
            refine ⟨.t (.s (.bool false)), fun β => told_bl (by simp; omega), rfl, ?_⟩
            refine ⟨fun h3 => ⟨m, ⟨rfl, rfl, rfl, rfl, hq⟩, fun h4 => ?_, fun h4 => ?_⟩, fun h3 => absurd h3 (by decide)⟩
            · rw [show (!validB m q) = true from h4, cond_true] at hlaw
              rw [hlaw] at hR
              replace hR : none = R := hR
              subst hR
              refine l_iface rfl rfl trivial rfl rfl rfl rfl rfl ?_
              refine l_panic rfl trivial rfl ?_
              refine e_run tt_ok ctTi_ok k_timer_walk_1 [] 60 (by kernel_rfl) ?_
              refine it_panic hok ?_
              refine e_run tt_ok ctTi_ok k_timer_tape_insert [] 60 (by kernel_rfl) ?_
              refine finM hok rfl (.inr (.inr ⟨_, rfl⟩)) ?_
              refine WpE.into (rowMove 0 2 rfl rfl) ?_
              exact fin_pan (hK (T, cap, m) ⟨Tp.refl _ _ _, hc⟩) [0, 1, 2, 3, 13] rfl rfl rfl rfl
            · rw [show (!validB m q) = false from h4, cond_false] at hlaw
              show WpL _ _ _ _ _ _
              refine l_yield hok rfl rfl rfl trivial rfl rfl rfl rfl rfl (fun D => ?_)
              refine c_run tt_ok ctTi_ok k_timer_tape_insert [] 60 (by kernel_rfl) ?_
              show WpE _ _ _ _ _
              refine rnd_begin hok D ?_
              refine c_run tt_ok ctTi_ok k_timer_tape_insert [] 60 (by kernel_rfl) ?_
              refine c_ways tt_ok ctTi_ok k_timer_tape_insert rfl rfl ?_
              repeat' (first | exact trivial | (refine Exists.intro m ?_; refine And.intro ⟨rfl, rfl, rfl, rfl, I32_wrap _⟩ ?_) | (refine And.intro ?_ ?_) | (refine fun _ => ?_))
              all_goals
                refine e_run tt_ok ctTi_ok k_timer_tape_insert [] 60 (by kernel_rfl) ?_
                refine ⟨fun h5 => ?_, fun h5 => ?_⟩
                · rw [show aftB (m.word (IntKind.i32.wrap (q + -20))) at' = true from h5, cond_true] at hlaw
                  rw [hlaw] at hR
                  replace hR : some (lnkK k bef w ((1 : Int) == 1), lnkM (insA m w at' q) bef w) = R := hR
                  subst hR
                  show WpE _ _ _ _ _
                  refine rnd_end hok D rfl rfl (.inr (.inr ⟨0, rfl, rfl⟩)) ?_
                  refine l_run tt_ok ctTi_ok k_timer_walk_1 [] 60 (by kernel_rfl) (by kernel_rfl) ?_
                  refine ⟨fun _ => ?_, fun h => absurd h (by simp)⟩
                  show WpE _ _ _ _ _
                  refine it_end hok (.inr rfl) rfl (by simp [stOf]) rfl ?_
                  refine e_run tt_ok ctTi_ok k_timer_tape_insert [] 60 (by kernel_rfl) ?_
                  refine ⟨(T, m, IntKind.i32.wrap (w + -20)), ⟨rfl, rfl, rfl, rfl, rfl, rfl, rfl, rfl, by dsimp only; omega, hc⟩, fun c1 hc1 => ?_⟩
                  refine ⟨(T ++ [(IntKind.i32.wrap (w + -20), m.word (IntKind.i32.wrap (w + -20)))], m.set (IntKind.i32.wrap (w + -20)) at', IntKind.i32.wrap (w + -16)), ⟨by simp, rfl, rfl, rfl, rfl, rfl, rfl, rfl, by simp; omega, by simpa using hc1⟩, fun c2 hc2 => ?_⟩
                  refine ⟨(T ++ [(IntKind.i32.wrap (w + -20), m.word (IntKind.i32.wrap (w + -20)))] ++ [(IntKind.i32.wrap (w + -16), (m.set (IntKind.i32.wrap (w + -20)) at').word (IntKind.i32.wrap (w + -16)))], insA m w at' q), ⟨by simp, rfl, rfl, rfl, rfl, rfl, rfl, .inr rfl, by simp; omega, by simpa using hc2⟩, fun x hx => ?_⟩
                  show WpE _ _ _ _ _
                  refine finM hok rfl (.inr (.inl rfl)) ?_
                  exact fin_kX tt_ok (rs := rs_timer_tape_insert) rfl rfl (hK x ⟨((Tp.set T m (I32_wrap _)).trans (Tp.set _ _ (I32_wrap _))).trans hx.1, hx.2⟩) [0, 1, 2, 3, 15] rfl rfl rfl rfl rfl rfl rfl
                · rw [show aftB (m.word (IntKind.i32.wrap (q + -20))) at' = false from h5, cond_false] at hlaw
                  show WpE _ _ _ _ _
                  refine rnd_end hok D rfl rfl (.inl ⟨rfl, rfl⟩) ?_
                  refine l_run tt_ok ctTi_ok k_timer_walk_1 [] 60 (by kernel_rfl) (by kernel_rfl) ?_
                  refine ⟨fun h => absurd h (by simp), fun _ => ⟨m, ⟨rfl, rfl, rfl, rfl, I32_wrap _⟩, ?_⟩⟩
                  refine e_again (q, m.word (IntKind.i32.wrap (q + -16)), f) ⟨word_I32 _ _, by dsimp only; omega, hlaw⟩ (Nat.lt_succ_self f) (into [0, 1, 2, 3, 4, 5, 6, 7, 8, 9, 10, 11, 12] ⟨⟨_, rfl, rfl⟩, ⟨_, rfl, rfl⟩, ⟨_, rfl, rfl⟩, ⟨_, rfl, rfl⟩, ⟨_, rfl, rfl⟩, ⟨_, rfl, rfl⟩, trivial⟩ ⟨_, rfl, rfl⟩ rfl rfl rfl rfl)
        · rw [insL, show (q == NP) = true by simpa [NP] using h2, cond_true] at hlaw
          rw [hlaw] at hR
          replace hR : some (lnkK k bef w ((1 : Int) == 1), lnkM (insA m w at' NP) bef w) = R := hR
          subst hR
          show WpE _ _ _ _ _
          refine it_end hok (.inl rfl) rfl (by simp) rfl ?_
          refine e_run tt_ok ctTi_ok k_timer_tape_insert [] 60 (by kernel_rfl) ?_
          refine ⟨(T, m, IntKind.i32.wrap (w + -20)), ⟨rfl, rfl, rfl, rfl, rfl, rfl, rfl, rfl, by dsimp only; omega, hc⟩, fun c1 hc1 => ?_⟩
          refine ⟨(T ++ [(IntKind.i32.wrap (w + -20), m.word (IntKind.i32.wrap (w + -20)))], m.set (IntKind.i32.wrap (w + -20)) at', IntKind.i32.wrap (w + -16)), ⟨by simp, rfl, rfl, rfl, rfl, rfl, rfl, rfl, by simp; omega, by simpa using hc1⟩, fun c2 hc2 => ?_⟩
          refine ⟨(T ++ [(IntKind.i32.wrap (w + -20), m.word (IntKind.i32.wrap (w + -20)))] ++ [(IntKind.i32.wrap (w + -16), (m.set (IntKind.i32.wrap (w + -20)) at').word (IntKind.i32.wrap (w + -16)))], insA m w at' NP), ⟨by simp, rfl, rfl, rfl, rfl, rfl, rfl, .inr rfl, by simp; omega, by simpa using hc2⟩, fun x hx => ?_⟩
          show WpE _ _ _ _ _
          refine finM hok rfl (.inr (.inl rfl)) ?_
          exact fin_kX tt_ok (rs := rs_timer_tape_insert) rfl rfl (hK x ⟨((Tp.set T m (I32_wrap _)).trans (Tp.set _ _ (I32_wrap _))).trans hx.1, hx.2⟩) [0, 1, 2, 3, 15] rfl rfl rfl rfl rfl rfl rfl
abbrev XI (f : FuncId) : Type 1 := (cargs : List TV) → (σ0 : List Ch) → Option {o : Out // ConX Try.prog chT f cargs σ0 o}
noncomputable abbrev xIns : XI f_timer_tape_insert := fun cargs σ0 => match cargs, σ0 with
  | [.s (.loc 0 0), .agg cs, .s (.int .i32 w), .s (.int .i32 at'), .s (.int .i64 p)], [.blk 115 [.loc 1 0, .sl 2 0 n cap], .blk 33 [.sl 3 0 k k'], .own 22 2 cap' ys, .own 5 1 c xs] => withCore cs fun q hq =>
    some ⟨.ex (List (Int × Int) × Ram × Option (Core × Ram)) fun y => .ask (n = y.1.length ∧ cap' = cap ∧ ys = tapV y.1 ∧ k = y.2.1.l.length ∧ k' = y.2.1.l.length ∧ c = y.2.1.l.length ∧ xs = bytesI y.2.1.l ∧ (q.ok ∧ I32 w ∧ (p = 0 ∨ p = 1) ∧ y.1.length ≤ 19990 ∧ y.1.length ≤ cap) ∧ insR q y.2.1 w at' p = y.2.2)
      (oX 3 y.1 y.2.1 y.2.2), fun K h => by
      obtain ⟨⟨T, m, r⟩, ⟨e1, e2, e3, e4, e5, e6, e7, ⟨e8, e9, e10, e11, e12⟩, e13⟩, h⟩ := h
      dsimp only at e1 e2 e3 e4 e5 e6 e7 e8 e9 e10 e11 e12 e13 h
      subst e1; subst e2; subst e3; subst e4; subst e5; subst e6; subst e7; subst hq; subst e13
      exact insert_c T m _ q w at' p e8 e9 e10 e11 e12 K h⟩
  | _, _ => none
end Go.Proofs

namespace Go.Proofs
open Go Go.Sx
set_option maxRecDepth 10000
/-- Where a process is: behind which one. -/
def remL : Nat → Ram → Int → Int → Int → Option (Option Int)
  | 0, _, _, _, _ => none
  | f + 1, m, w, bef, q => bif q == NP then some none else bif bif f == 0 then true else !validB m q then none
      else bif q == w then some (some bef) else remL f m w q (m.word (IntKind.i32.wrap (q + -16)))
def remE (k : Core) (m : Ram) (w p : Int) : Option (Option Int) → Option (Core × Bool × Ram)
  | none => none
  | some none => some (k, false, m)
  | some (some bef) => some (lnkK k bef (m.word (IntKind.i32.wrap (w + -16))) (p == 1), true, lnkM m bef (m.word (IntKind.i32.wrap (w + -16))))
def remR (k : Core) (m : Ram) (w p : Int) : Option (Core × Bool × Ram) := remE k m w p (remL queN m w NP (k.tm (p == 1)))
abbrev oP (n : Nat) (T : List (Int × Int)) (m : Ram) : Out := .all (List (Int × Int) × Nat × Ram) (fun x => Tp n T m x.1 x.2.2 ∧ x.1.length ≤ x.2.1) fun x => .ret pan [tT 4 x.1.length x.2.1, tB x.2.2.l.length, .dead, mOwn x.2.2.l, tR x.2.1 x.1]
def oXb (n : Nat) (T : List (Int × Int)) (m : Ram) : Option (Core × Bool × Ram) → Out
  | some r => oT (.tup [.agg r.1.sv, .s (.bool r.2.1)]) n T m r.2.2
  | none => oP n T m
noncomputable abbrev ctRe : CT := [(f_timer_valid, eTval), (f_timer_walk, in_timer_walk []), (f_timer_tape_get, in_timer_tape_get ctWo), (f_timer_tape_link, eLink)]
theorem ctRe_ok : CTok Try.prog ctRe := ⟨con_ok cal_timer_valid _, in_timer_walk_ok (ct := []) trivial, in_timer_tape_get_ok ctWo_ok, con_ok cal_timer_tape_link _, trivial⟩
set_option maxHeartbeats 1000000 in
theorem remove_c (T : List (Int × Int)) (m : Ram) (cap : Nat) (k : Core) (w p : Int) (hok' : k.ok) (hp : p = 0 ∨ p = 1) (hT : T.length ≤ 19990) (hc : T.length ≤ cap) :
    ConX Try.prog chT f_timer_tape_remove [.s (.loc 0 0), .agg k.sv, .s (.int .i32 w), .s (.int .i64 p)] [tT 2 T.length cap, tB m.l.length, tR cap T, mOwn m.l]
    (oXb 1 T m (remR k m w p)) := by
  intro K hK
  rcases hp with rfl | rfl
  · obtain ⟨R, hR⟩ : ∃ R, remR k m w 0 = R := ⟨_, rfl⟩
    rw [hR] at hK
    unfold remR at hR
    rw [show k.tm ((0 : Int) == 1) = k.t0 from rfl] at hR
    refine enterMX fn_timer_tape_remove rfl nt_timer_tape_remove rfl rfl (fun φ w0 β0 F => ?_)
    refine c_run tt_ok ctRe_ok k_timer_tape_remove [] 90 (by kernel_rfl) ?_
    show WpC _ _ _ _ _
    refine c_range 14 rfl rfl rfl rfl rfl rfl cal_timer_walk_1 fn_timer_walk_1 rfl nt_timer_walk_1 rfl rfl rfl (fun G hok => ?_)
    refine c_run tt_ok ctRe_ok k_timer_walk_1 [] 60 (by kernel_rfl) ?_
    show WpC _ _ _ _ _
    refine c_loop (α := Int × Int × Nat) (fun x => I32 x.2.1 ∧ (1 ≤ x.2.2 ∧ x.2.2 ≤ 1025) ∧ remL queN m w NP k.t0 = remL x.2.2 m w x.1 x.2.1) (fun x => x.2.2)
      (fun x => [(0, .t (.s (.raw (.func (.yield G.l) #[] #[]))), none), (1, .t (.s (.loc 11 0)), none), (2, .t (.s (.loc 13 0)), none), (3, .t (.s (.loc 12 0)), none), (5, .t (.s (.int .i64 (1025 - (x.2.2 : Int)))), none), (6, .t (.s (.int .i32 x.2.1)), none)])
      (fun x => [tT 2 T.length cap, tB m.l.length, tR cap T, mOwn m.l, .blk 75 [.loc 0 0], .blk 26 k.sv, .blk 21 [.int .i32 w], .blk 3 [.int .i64 0], .blk 26 Core.zero.sv, .blk 4 [.bool false], .blk 21 [.int .i32 x.1], .blk 26 k.sv, .blk 75 [.loc 0 0], .blk 3 [.int .i64 0]]) (NP, k.t0, queN) ?_ ?_ ?_
    · exact ⟨hok'.t0, by show 1 ≤ queN ∧ queN ≤ 1025; rw [queN_eq]; omega, rfl⟩
    · refine into [0, 1, 2, 3, 4, 5, 6, 7, 8, 9, 10, 11, 12, 13] ⟨⟨_, rfl, rfl⟩, ⟨_, rfl, rfl⟩, ⟨_, rfl, rfl⟩, ⟨_, rfl, rfl⟩, ⟨_, rfl, ?_⟩, ⟨_, rfl, rfl⟩, trivial⟩ ⟨_, rfl, rfl⟩ rfl rfl rfl rfl
      rw [queN_eq]; rfl
    · rintro ⟨bef, q, f⟩ ⟨hq, hf, hlaw⟩
      simp only at hq hf hlaw
      obtain ⟨f, rfl⟩ : ∃ f', f = f' + 1 := ⟨f - 1, by omega⟩
      dsimp only
      have hn : IntKind.i64.wrap (1025 - ((f + 1 : Nat) : Int) + 1) = 1025 - (f : Int) := by rw [wrap64 (by omega) (by omega)]; omega
      refine c_run' tt_ok ctRe_ok k_timer_walk_1 [33, 100017, 100019] 60 (by kernel_rfl) (by kernel_rfl) ?_
      refine ⟨fun h2 => ⟨.t (.s (.int .i64 (1025 - (f : Int)))), fun β => told_il hn.symm, rfl, ?_⟩, fun h2 => ?_⟩
      · rcases Nat.eq_zero_or_pos f with rfl | hf0
        · refine ⟨.t (.s (.bool true)), fun β => told_bl rfl, rfl, ?_⟩
          refine ⟨fun h => absurd h (by decide), fun _ => ⟨fun h => absurd h (by decide), fun _ => ⟨rfl, fun _ => ?_, fun h => absurd h (by decide)⟩⟩⟩
          rw [remL, show (q == NP) = false by simpa [NP] using h2, cond_false, show ((0 : Nat) == 0) = true from rfl, cond_true, cond_true] at hlaw
          rw [hlaw] at hR
          replace hR : none = R := hR
          subst hR
          refine l_iface rfl rfl trivial rfl rfl rfl rfl rfl ?_
          refine l_panic rfl trivial rfl ?_
          refine e_run tt_ok ctRe_ok k_timer_walk_1 [] 60 (by kernel_rfl) ?_
          refine it_panic hok ?_
          refine e_run tt_ok ctRe_ok k_timer_tape_remove [] 60 (by kernel_rfl) ?_
          refine finM hok rfl (.inr (.inr ⟨_, rfl⟩)) ?_
          refine WpE.into (rowMove 0 2 rfl rfl) ?_
          exact fin_pan (hK (T, cap, m) ⟨Tp.refl _ _ _, hc⟩) [0, 1, 2, 3, 14] rfl rfl rfl rfl
        · have hf0' : (f == 0) = false := by simp; omega
          rw [remL, show (q == NP) = false by simpa [NP] using h2, cond_false, hf0', cond_false] at hlaw
          refine ⟨.t (.s (.bool false)), fun β => told_bl (by simp; omega), rfl, ?_⟩
          refine ⟨fun h3 => ⟨m, ⟨rfl, rfl, rfl, rfl, hq⟩, fun h4 => ?_, fun h4 => ?_⟩, fun h3 => absurd h3 (by decide)⟩
          · rw [show (!validB m q) = true from h4, cond_true] at hlaw
            rw [hlaw] at hR
            replace hR : none = R := hR
            subst hR
            refine l_iface rfl rfl trivial rfl rfl rfl rfl rfl ?_
            refine l_panic rfl trivial rfl ?_
            refine e_run tt_ok ctRe_ok k_timer_walk_1 [] 60 (by kernel_rfl) ?_
            refine it_panic hok ?_
            refine e_run tt_ok ctRe_ok k_timer_tape_remove [] 60 (by kernel_rfl) ?_
            refine finM hok rfl (.inr (.inr ⟨_, rfl⟩)) ?_
            refine WpE.into (rowMove 0 2 rfl rfl) ?_
            exact fin_pan (hK (T, cap, m) ⟨Tp.refl _ _ _, hc⟩) [0, 1, 2, 3, 14] rfl rfl rfl rfl
          · rw [show (!validB m q) = false from h4, cond_false] at hlaw
            show WpL _ _ _ _ _ _
            refine l_yield hok rfl rfl rfl trivial rfl rfl rfl rfl rfl (fun D => ?_)
            refine c_run tt_ok ctRe_ok k_timer_tape_remove [] 60 (by kernel_rfl) ?_
            show WpE _ _ _ _ _
            refine rnd_begin hok D ?_
            refine c_run tt_ok ctRe_ok k_timer_tape_remove [] 60 (by kernel_rfl) ?_
            refine ⟨fun h5 => ?_, fun h5 => ?_⟩
            · rw [show (q == w) = true from h5, cond_true] at hlaw
              rw [hlaw] at hR
              replace hR : some (lnkK k bef (m.word (IntKind.i32.wrap (w + -16))) ((0 : Int) == 1), true, lnkM m bef (m.word (IntKind.i32.wrap (w + -16)))) = R := hR
              subst hR
              show WpC _ _ _ _ _
              refine c_waysH tt_ok ctRe_ok k_timer_tape_remove [4, 5, 6, 7, 10] rfl rfl rfl ?_
              repeat' (first | exact trivial | exact ⟨rfl, rfl, rfl, rfl, rfl, trivial⟩ | (refine Exists.intro m ?_; refine And.intro ⟨rfl, rfl, rfl, rfl, I32_wrap _⟩ ?_) | (refine Exists.intro (T, m) ?_; refine And.intro ⟨rfl, rfl, rfl, rfl, rfl, rfl, rfl, .inl rfl, by dsimp only; omega, hc⟩ ?_) | (refine And.intro ?_ ?_) | (refine fun _ => ?_))
              all_goals
                rename_i x hx
                refine e_run tt_ok ctRe_ok k_timer_tape_remove [] 60 (by kernel_rfl) ?_
                show WpE _ _ _ _ _
                refine rnd_end hok D rfl rfl (.inr (.inl ⟨rfl, rfl⟩)) ?_
                refine l_run tt_ok ctRe_ok k_timer_walk_1 [] 60 (by kernel_rfl) (by kernel_rfl) ?_
                refine ⟨fun _ => ?_, fun h => absurd h (by simp)⟩
                show WpE _ _ _ _ _
                refine it_end hok (.inr rfl) rfl (by simp [stOf]) rfl ?_
                refine e_run tt_ok ctRe_ok k_timer_tape_remove [] 60 (by kernel_rfl) ?_
                show WpE _ _ _ _ _
                refine finM hok rfl (.inr (.inl rfl)) ?_
                exact fin_kX tt_ok (rs := rs_timer_tape_remove) rfl rfl (hK x hx) [0, 1, 2, 3, 14] rfl rfl rfl rfl rfl rfl rfl
            · rw [show (q == w) = false from h5, cond_false] at hlaw
              show WpE _ _ _ _ _
              refine rnd_end hok D rfl rfl (.inl ⟨rfl, rfl⟩) ?_
              refine l_run tt_ok ctRe_ok k_timer_walk_1 [] 60 (by kernel_rfl) (by kernel_rfl) ?_
              refine ⟨fun h => absurd h (by simp), fun _ => ⟨m, ⟨rfl, rfl, rfl, rfl, I32_wrap _⟩, ?_⟩⟩
              refine e_again (q, m.word (IntKind.i32.wrap (q + -16)), f) ⟨word_I32 _ _, by dsimp only; omega, hlaw⟩ (Nat.lt_succ_self f) (into [0, 1, 2, 3, 4, 5, 6, 7, 8, 9, 10, 11, 12, 13] ⟨⟨_, rfl, rfl⟩, ⟨_, rfl, rfl⟩, ⟨_, rfl, rfl⟩, ⟨_, rfl, rfl⟩, ⟨_, rfl, rfl⟩, ⟨_, rfl, rfl⟩, trivial⟩ ⟨_, rfl, rfl⟩ rfl rfl rfl rfl)
      · rw [remL, show (q == NP) = true by simpa [NP] using h2, cond_true] at hlaw
        rw [hlaw] at hR
        replace hR : some (k, false, m) = R := hR
        subst hR
        show WpE _ _ _ _ _
        refine it_end hok (.inl rfl) rfl (by simp) rfl ?_
        refine e_run tt_ok ctRe_ok k_timer_tape_remove [] 60 (by kernel_rfl) ?_
        show WpE _ _ _ _ _
        refine finM hok rfl (.inr (.inl rfl)) ?_
        refine WpE.into (rowMove 0 2 rfl rfl) ?_
        exact fin_kX tt_ok (rs := rs_timer_tape_remove) rfl rfl (hK (T, cap) ⟨Tp.refl _ _ _, hc⟩) [0, 1, 2, 3, 14] rfl rfl rfl rfl rfl rfl rfl
  · obtain ⟨R, hR⟩ : ∃ R, remR k m w 1 = R := ⟨_, rfl⟩
    rw [hR] at hK
    unfold remR at hR
    rw [show k.tm ((1 : Int) == 1) = k.t1 from rfl] at hR
    refine enterMX fn_timer_tape_remove rfl nt_timer_tape_remove rfl rfl (fun φ w0 β0 F => ?_)
    refine c_run tt_ok ctRe_ok k_timer_tape_remove [] 90 (by kernel_rfl) ?_
    show WpC _ _ _ _ _
    refine c_range 14 rfl rfl rfl rfl rfl rfl cal_timer_walk_1 fn_timer_walk_1 rfl nt_timer_walk_1 rfl rfl rfl (fun G hok => ?_)
    refine c_run tt_ok ctRe_ok k_timer_walk_1 [] 60 (by kernel_rfl) ?_
    show WpC _ _ _ _ _
    refine c_loop (α := Int × Int × Nat) (fun x => I32 x.2.1 ∧ (1 ≤ x.2.2 ∧ x.2.2 ≤ 1025) ∧ remL queN m w NP k.t1 = remL x.2.2 m w x.1 x.2.1) (fun x => x.2.2)
      (fun x => [(0, .t (.s (.raw (.func (.yield G.l) #[] #[]))), none), (1, .t (.s (.loc 11 0)), none), (2, .t (.s (.loc 13 0)), none), (3, .t (.s (.loc 12 0)), none), (5, .t (.s (.int .i64 (1025 - (x.2.2 : Int)))), none), (6, .t (.s (.int .i32 x.2.1)), none)])
      (fun x => [tT 2 T.length cap, tB m.l.length, tR cap T, mOwn m.l, .blk 75 [.loc 0 0], .blk 26 k.sv, .blk 21 [.int .i32 w], .blk 3 [.int .i64 1], .blk 26 Core.zero.sv, .blk 4 [.bool false], .blk 21 [.int .i32 x.1], .blk 26 k.sv, .blk 75 [.loc 0 0], .blk 3 [.int .i64 1]]) (NP, k.t1, queN) ?_ ?_ ?_
    · exact ⟨hok'.t1, by show 1 ≤ queN ∧ queN ≤ 1025; rw [queN_eq]; omega, rfl⟩
    · refine into [0, 1, 2, 3, 4, 5, 6, 7, 8, 9, 10, 11, 12, 13] ⟨⟨_, rfl, rfl⟩, ⟨_, rfl, rfl⟩, ⟨_, rfl, rfl⟩, ⟨_, rfl, rfl⟩, ⟨_, rfl, ?_⟩, ⟨_, rfl, rfl⟩, trivial⟩ ⟨_, rfl, rfl⟩ rfl rfl rfl rfl
      rw [queN_eq]; rfl
    · rintro ⟨bef, q, f⟩ ⟨hq, hf, hlaw⟩
      simp only at hq hf hlaw
      obtain ⟨f, rfl⟩ : ∃ f', f = f' + 1 := ⟨f - 1, by omega⟩
      dsimp only
      have hn : IntKind.i64.wrap (1025 - ((f + 1 : Nat) : Int) + 1) = 1025 - (f : Int) := by rw [wrap64 (by omega) (by omega)]; omega
      refine c_run' tt_ok ctRe_ok k_timer_walk_1 [33, 100017, 100019] 60 (by kernel_rfl) (by kernel_rfl) ?_
      refine ⟨fun h2 => ⟨.t (.s (.int .i64 (1025 - (f : Int)))), fun β => told_il hn.symm, rfl, ?_⟩, fun h2 => ?_⟩
      · rcases Nat.eq_zero_or_pos f with rfl | hf0
        · refine ⟨.t (.s (.bool true)), fun β => told_bl rfl, rfl, ?_⟩
          refine ⟨fun h => absurd h (by decide), fun _ => ⟨fun h => absurd h (by decide), fun _ => ⟨rfl, fun _ => ?_, fun h => absurd h (by decide)⟩⟩⟩
          rw [remL, show (q == NP) = false by simpa [NP] using h2, cond_false, show ((0 : Nat) == 0) = true from rfl, cond_true, cond_true] at hlaw
          rw [hlaw] at hR
          replace hR : none = R := hR
          subst hR
          refine l_iface rfl rfl trivial rfl rfl rfl rfl rfl ?_
          refine l_panic rfl trivial rfl ?_
          refine e_run tt_ok ctRe_ok k_timer_walk_1 [] 60 (by kernel_rfl) ?_
          refine it_panic hok ?_
          refine e_run tt_ok ctRe_ok k_timer_tape_remove [] 60 (by kernel_rfl) ?_
          refine finM hok rfl (.inr (.inr ⟨_, rfl⟩)) ?_
          refine WpE.into (rowMove 0 2 rfl rfl) ?_
          exact fin_pan (hK (T, cap, m) ⟨Tp.refl _ _ _, hc⟩) [0, 1, 2, 3, 14] rfl rfl rfl rfl
        · have hf0' : (f == 0) = false := by simp; omega
          rw [remL, show (q == NP) = false by simpa [NP] using h2, cond_false, hf0', cond_false] at hlaw
          refine ⟨.t (.s (.bool false)), fun β => told_bl (by simp; omega), rfl, ?_⟩
          refine ⟨fun h3 => ⟨m, ⟨rfl, rfl, rfl, rfl, hq⟩, fun h4 => ?_, fun h4 => ?_⟩, fun h3 => absurd h3 (by decide)⟩
          · rw [show (!validB m q) = true from h4, cond_true] at hlaw
            rw [hlaw] at hR
            replace hR : none = R := hR
            subst hR
            refine l_iface rfl rfl trivial rfl rfl rfl rfl rfl ?_
            refine l_panic rfl trivial rfl ?_
            refine e_run tt_ok ctRe_ok k_timer_walk_1 [] 60 (by kernel_rfl) ?_
            refine it_panic hok ?_
            refine e_run tt_ok ctRe_ok k_timer_tape_remove [] 60 (by kernel_rfl) ?_
            refine finM hok rfl (.inr (.inr ⟨_, rfl⟩)) ?_
            refine WpE.into (rowMove 0 2 rfl rfl) ?_
            exact fin_pan (hK (T, cap, m) ⟨Tp.refl _ _ _, hc⟩) [0, 1, 2, 3, 14] rfl rfl rfl rfl
          · rw [show (!validB m q) = false from h4, cond_false] at hlaw
            show WpL _ _ _ _ _ _
            refine l_yield hok rfl rfl rfl trivial rfl rfl rfl rfl rfl (fun D => ?_)
            refine c_run tt_ok ctRe_ok k_timer_tape_remove [] 60 (by kernel_rfl) ?_
            show WpE _ _ _ _ _
            refine rnd_begin hok D ?_
            refine c_run tt_ok ctRe_ok k_timer_tape_remove [] 60 (by kernel_rfl) ?_
            refine ⟨fun h5 => ?_, fun h5 => ?_⟩
            · rw [show (q == w) = true from h5, cond_true] at hlaw
              rw [hlaw] at hR
              replace hR : some (lnkK k bef (m.word (IntKind.i32.wrap (w + -16))) ((1 : Int) == 1), true, lnkM m bef (m.word (IntKind.i32.wrap (w + -16)))) = R := hR
              subst hR
              show WpC _ _ _ _ _
              refine c_waysH tt_ok ctRe_ok k_timer_tape_remove [4, 5, 6, 7, 10] rfl rfl rfl ?_
              repeat' (first | exact trivial | exact ⟨rfl, rfl, rfl, rfl, rfl, trivial⟩ | (refine Exists.intro m ?_; refine And.intro ⟨rfl, rfl, rfl, rfl, I32_wrap _⟩ ?_) | (refine Exists.intro (T, m) ?_; refine And.intro ⟨rfl, rfl, rfl, rfl, rfl, rfl, rfl, .inr rfl, by dsimp only; omega, hc⟩ ?_) | (refine And.intro ?_ ?_) | (refine fun _ => ?_))
              all_goals
                rename_i x hx
                refine e_run tt_ok ctRe_ok k_timer_tape_remove [] 60 (by kernel_rfl) ?_
                show WpE _ _ _ _ _
                refine rnd_end hok D rfl rfl (.inr (.inl ⟨rfl, rfl⟩)) ?_
                refine l_run tt_ok ctRe_ok k_timer_walk_1 [] 60 (by kernel_rfl) (by kernel_rfl) ?_
                refine ⟨fun _ => ?_, fun h => absurd h (by simp)⟩
                show WpE _ _ _ _ _
                refine it_end hok (.inr rfl) rfl (by simp [stOf]) rfl ?_
                refine e_run tt_ok ctRe_ok k_timer_tape_remove [] 60 (by kernel_rfl) ?_
                show WpE _ _ _ _ _
                refine finM hok rfl (.inr (.inl rfl)) ?_
                exact fin_kX tt_ok (rs := rs_timer_tape_remove) rfl rfl (hK x hx) [0, 1, 2, 3, 14] rfl rfl rfl rfl rfl rfl rfl
            · rw [show (q == w) = false from h5, cond_false] at hlaw
              show WpE _ _ _ _ _
              refine rnd_end hok D rfl rfl (.inl ⟨rfl, rfl⟩) ?_
              refine l_run tt_ok ctRe_ok k_timer_walk_1 [] 60 (by kernel_rfl) (by kernel_rfl) ?_
              refine ⟨fun h => absurd h (by simp), fun _ => ⟨m, ⟨rfl, rfl, rfl, rfl, I32_wrap _⟩, ?_⟩⟩
              refine e_again (q, m.word (IntKind.i32.wrap (q + -16)), f) ⟨word_I32 _ _, by dsimp only; omega, hlaw⟩ (Nat.lt_succ_self f) (into [0, 1, 2, 3, 4, 5, 6, 7, 8, 9, 10, 11, 12, 13] ⟨⟨_, rfl, rfl⟩, ⟨_, rfl, rfl⟩, ⟨_, rfl, rfl⟩, ⟨_, rfl, rfl⟩, ⟨_, rfl, rfl⟩, ⟨_, rfl, rfl⟩, trivial⟩ ⟨_, rfl, rfl⟩ rfl rfl rfl rfl)
      · rw [remL, show (q == NP) = true by simpa [NP] using h2, cond_true] at hlaw
        rw [hlaw] at hR
        replace hR : some (k, false, m) = R := hR
        subst hR
        show WpE _ _ _ _ _
        refine it_end hok (.inl rfl) rfl (by simp) rfl ?_
        refine e_run tt_ok ctRe_ok k_timer_tape_remove [] 60 (by kernel_rfl) ?_
        show WpE _ _ _ _ _
        refine finM hok rfl (.inr (.inl rfl)) ?_
        refine WpE.into (rowMove 0 2 rfl rfl) ?_
        exact fin_kX tt_ok (rs := rs_timer_tape_remove) rfl rfl (hK (T, cap) ⟨Tp.refl _ _ _, hc⟩) [0, 1, 2, 3, 14] rfl rfl rfl rfl rfl rfl rfl
noncomputable abbrev xRem : XI f_timer_tape_remove := fun cargs σ0 => match cargs, σ0 with
  | [.s (.loc 0 0), .agg cs, .s (.int .i32 w), .s (.int .i64 p)], [.blk 115 [.loc 1 0, .sl 2 0 n cap], .blk 33 [.sl 3 0 k k'], .own 22 2 cap' ys, .own 5 1 c xs] => withCore cs fun q hq =>
    some ⟨.ex (List (Int × Int) × Ram × Option (Core × Bool × Ram)) fun y => .ask (n = y.1.length ∧ cap' = cap ∧ ys = tapV y.1 ∧ k = y.2.1.l.length ∧ k' = y.2.1.l.length ∧ c = y.2.1.l.length ∧ xs = bytesI y.2.1.l ∧ (q.ok ∧ (p = 0 ∨ p = 1) ∧ y.1.length ≤ 19990 ∧ y.1.length ≤ cap) ∧ remR q y.2.1 w p = y.2.2)
      (oXb 1 y.1 y.2.1 y.2.2), fun K h => by
      obtain ⟨⟨T, m, r⟩, ⟨e1, e2, e3, e4, e5, e6, e7, ⟨e8, e10, e11, e12⟩, e13⟩, h⟩ := h
      dsimp only at e1 e2 e3 e4 e5 e6 e7 e8 e10 e11 e12 e13 h
      subst e1; subst e2; subst e3; subst e4; subst e5; subst e6; subst e7; subst hq; subst e13
      exact remove_c T m _ q w p e8 e10 e11 e12 K h⟩
  | _, _ => none
end Go.Proofs
