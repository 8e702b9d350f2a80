/- Steps that owe something: loads out of slices and arrays, addresses of elements, strings of bytes. -/
import Derived.Test.YtcjaggapamngmaaSxA
import Derived.Great.BuildSlice
import Derived.Deep.AppendSrc
import Derived.Laws.IdiomCopy
import Derived.Deep.Quiet
import Derived.Orders
import Derived.Tactics
import Derived.LoopN
import Derived.Deep.LoopGhost

namespace Go.Sx
open Go

/-- The cells of a chunk of cells. -/
def Ch.cells? : Ch → Option (List Value)
  | .arr _ xs => some xs
  | .own _ _ _ xs => some xs
  | .view xs => some xs
  | _ => none

theorem Ch.cells_at {β : Nat → Bd} {b : Bd} {w : World} {c : Ch} {xs : List Value} (h : c.sat β b w) (hc : c.cells? = some xs) (j : Nat) (v : Value) (hv : xs[j]? = some v) :
    b.nil = false ∧ w.cell? ⟨b.g, b.o + j, none⟩ = some v := by
  cases c <;> simp [Ch.cells?] at hc <;> subst hc
  · obtain ⟨⟨h1, h2⟩, h3⟩ := h
    exact ⟨h2, by rw [h1, Nat.zero_add, cell_blk h3]; exact hv⟩
  · rcases h with ⟨_, rfl, _⟩ | ⟨⟨h1, h2, _⟩, sp, _, h3⟩
    · simp at hv
    · refine ⟨h1, ?_⟩
      rw [h2, Nat.zero_add, cell_blk h3, List.getElem?_append_left (List.getElem?_eq_some_iff.1 hv).1]; exact hv
  · exact h j v hv

/-- A closed scalar's cell. -/
def SV.cv (v : SV) : Value := v.den fun _ => ⟨0, 0, false⟩

theorem SV.cv_den {β : Nat → Bd} {v : SV} (h : v.wfB 0 = true) : v.den β = v.cv := by
  cases v <;> first | rfl | (simp [SV.wfB, Nat.blt] at h)
theorem SV.map_cv {β : Nat → Bd} {l : List SV} (h : allB (SV.wfB 0) l = true) : l.map (SV.den β) = l.map SV.cv :=
  List.map_congr_left fun v hv => SV.cv_den (allB_spec h v hv)
theorem SV.wfB_mono {m m' : Nat} (hm : m ≤ m') {v : SV} (h : v.wfB m = true) : v.wf m' := SV.wf_mono hm (SV.wfB_spec h)

/-- The part of xs from off on, n cells. -/
def seg (xs : List Value) (off n : Nat) : List Value := (xs.drop off).take n
theorem seg_get {xs : List Value} {off n j : Nat} {v : Value} (h : (seg xs off n)[j]? = some v) : xs[off + j]? = some v ∧ j < n := by
  unfold seg at h
  have hj : j < n := by
    rcases Nat.lt_or_ge j n with h' | h'
    · exact h'
    · rw [List.getElem?_eq_none (by simp; omega)] at h; cases h
  rw [List.getElem?_take_of_lt hj, List.getElem?_drop] at h
  exact ⟨h, hj⟩
theorem seg_all (xs : List Value) : seg xs 0 xs.length = xs := by simp [seg]
theorem seg_length {xs : List Value} {off n : Nat} (h : off + n ≤ xs.length) : (seg xs off n).length = n := by simp [seg]; omega

/-- What one asks, under a guard. -/
def whenP (g : Option (Bool × Bool)) (p : Prop) : Prop := match g with
  | none => p
  | some (b, q) => b = q → p

/-- An element that is loaded. -/
def RowAt (xs : List Value) (off sz : Nat) (row : List SV) : Prop := sz ≤ row.length ∧ seg xs off sz = row.map SV.cv

/-- A shift by a count that is not written out; a division by a divisor that is not. -/
def symBin (op : BinOp) (k : IntKind) (a b : Int) (ask : Prop → Prop) (kk : FV → Prop) : Option Prop := match op with
  | .shl => some (ask (0 ≤ b) ∧ kk (.t (.s (.int k (k.wrap (a * 2 ^ (min b.toNat k.bits)))))))
  | .shr => some (ask (0 ≤ b) ∧ kk (.t (.s (.int k (a.fdiv (2 ^ (min b.toNat k.bits)))))))
  | .quo => some (ask (b ≠ 0) ∧ kk (.t (.s (.int k (k.wrap (a.tdiv b))))))
  | .rem => some (ask (b ≠ 0) ∧ kk (.t (.s (.int k (a.tmod b)))))
  | _ => none

def evX (tt : TT) (fr : Fr) (g : Gd) (gb : Option (Bool × Bool)) (σ : List Ch) (op : Op) (k : FV → Prop) : Option Prop :=
  match op with
  | .pick c x y => match opd fr g c with
    | some (.s (.bool b)) => match opdP fr g c true x, opdP fr g c false y with
      | some u, none => some (whenP gb (b = true) ∧ k (.t u))
      | none, some v => some (whenP gb (b = false) ∧ k (.t v))
      | _, _ => none
    | _ => none
  | .load t x => match opd fr g x with
    | some (.s (.loc i off)) => match σ[i]? with
      | some c => match c.cells? with
        | some xs => match tlook t tt with
          | some ti => match ti.agg with
            | true => some (∃ row : List SV, allB (SV.wfB 0) row = true ∧ whenP gb (RowAt xs off ti.size row) ∧ k (.t (.agg row)))
            | false => some (∃ v : SV, v.wfB 0 = true ∧ whenP gb (xs[off]? = some v.cv) ∧ k (.t (.s v)))
          | none => none
        | none => none
      | none => none
    | _ => none
  | .indexAddr t x y => match opd fr g x, opd fr g y with
    | some (.s (.sl i off len _)), some (.s (.int _ n)) => match σ[i]? with
      | some c => match c.cells? with
        | some xs => match tlook t tt with
          | some ti => match ti.kd with
            | .slice _ sz _ => match sz with
              | 0 => none
              | sz' + 1 => some (∃ j : Nat, whenP gb (n = (j : Int) ∧ j < len ∧ off + (j + 1) * (sz' + 1) ≤ xs.length) ∧ k (.t (.s (.loc i (off + j * (sz' + 1))))))
            | _ => none
          | none => none
        | none => none
      | none => none
    | _, _ => none
  | .index t x y => match opd fr g x, opd fr g y with
    | some (.s (.str l)), some (.s (.int _ n)) => match tlook t tt with
      | some ti => match ti.kd with
        | .str => some (∃ (j : Nat) (b : UInt8), whenP gb (n = (j : Int) ∧ l[j]? = some b) ∧ k (.t (.s (.int .u8 (b.toNat : Int)))))
        | _ => none
      | none => none
    | _, _ => none
  | .binOp op _ x y _ => match symOp op y with
    | true => match opd fr g x, opd fr g y with
      | some (.s (.int kk a)), some (.s (.int kb b)) => match op, Nat.beq (kn kk) (kn kb) with
        | .shl, _ => symBin .shl kk a b (whenP gb) k
        | .shr, _ => symBin .shr kk a b (whenP gb) k
        | .quo, true => symBin .quo kk a b (whenP gb) k
        | .rem, true => symBin .rem kk a b (whenP gb) k
        | _, _ => none
      | _, _ => none
    | false => none
  | .convert src dst x => match opd fr g x with
    | some (.s (.raw (.slice none _ _))) => match tlook src tt, tlook dst tt with
      | some ti, some td => match ti.kd, td.kd with
        | .slice e _ _, .str => match tlook e tt with
          | some te => match te.kd with
            | .int .u8 => some (k (.t (.s (.str []))))
            | _ => none
          | none => none
        | _, _ => none
      | _, _ => none
    | some (.s (.sl i off len _)) => match σ[i]? with
      | some c => match c.cells? with
        | some xs => match tlook src tt, tlook dst tt with
          | some ti, some td => match ti.kd, td.kd with
            | .slice e _ _, .str => match tlook e tt with
              | some te => match te.kd with
                | .int .u8 => some (∃ l : List Int, whenP gb (seg xs off len = l.map (Value.int .u8) ∧ l.length = len) ∧ k (.t (.s (.str (l.map fun n => UInt8.ofNat n.toNat)))))
                | _ => none
              | none => none
            | _, _ => none
          | _, _ => none
        | none => none
      | none => none
    | _ => none
  | _ => none

def GuardB (a : Act) : Gd → Option (Bool × Bool) → Prop
  | none, none => True
  | some (t, p), some (b, q) => p = q ∧ (a.tmps[t]? = some (.bool p) → b = p)
  | _, _ => False

theorem whenP_use {a : Act} {g : Gd} {gb : Option (Bool × Bool)} {p : Prop} (hb : GuardB a g gb) (hu : Under g a) (h : whenP gb p) : p := by
  cases g with
  | none => cases gb with
    | none => exact h
    | some q => exact hb.elim
  | some q =>
    obtain ⟨t, p'⟩ := q
    cases gb with
    | none => exact hb.elim
    | some r =>
      obtain ⟨b, q⟩ := r
      obtain ⟨rfl, h2⟩ := hb
      exact h (h2 hu)

theorem foldl_push (l : List Int) (s : ByteArray) : l.foldl (fun r n => r.push (UInt8.ofNat n.toNat)) s = ⟨s.data ++ (l.map fun n => UInt8.ofNat n.toNat).toArray⟩ := by
  induction l generalizing s with
  | nil => simp
  | cons n l ih =>
    simp only [List.foldl_cons, ih, List.map_cons]
    congr 1
    show (s.data.push _) ++ _ = _
    apply Array.ext'
    simp

theorem den_loc {β : Nat → Bd} (i off : Nat) : TV.den β (.s (.loc i off)) = .pointer (some ⟨(β i).g, (β i).o + off, none⟩) := rfl
theorem den_sl {β : Nat → Bd} (i off len cap : Nat) : TV.den β (.s (.sl i off len cap)) = .slice (cond (β i).nil none (some ⟨(β i).g, (β i).o + off, none⟩)) len cap := rfl

theorem evX_soundC {P : Program} {C : World → Prop} {tt : TT} (htt : TTok P tt) {β : Nat → Bd} {fr : Fr} {g : Gd} {gb : Option (Bool × Bool)} {σ : List Ch} {φ : Heap} {a : Act} (hk : Knows β fr a)
    (hb : GuardB a g gb) (hw : ∀ e ∈ fr, e.2.1.wf σ.length) (hm : ∀ w, C w → Sat β σ φ w) {o : Oper} {k : FV → Prop} {R : Prop} (h : evX tt fr g gb σ o.op k = some R) (hR : R) :
    ∃ v, k v ∧ (∀ m, σ.length ≤ m → v.wf m) ∧ ∀ w, C w → Under g a → (execOp a.eval o).run P w = .ok (.value (v.den β)) w := by
  unfold evX at h
  split at h
  · -- pick, of one arm
    rename_i c x y hop
    split at h
    · rename_i b hc
      split at h
      · rename_i u hx hy
        cases h
        obtain ⟨hb', hkk⟩ := hR
        refine ⟨_, hkk, fun m hml => FV.wf_mono hml (opdP_wf hw true x u hx), fun w _ hu => ?_⟩
        have hb1 := whenP_use hb hu hb'
        have hce : a.eval c = .bool b := opd_sound hk hu hc
        have hxe := opdP_sound hk hu hc true x u hb1 hx
        unfold execOp
        rw [hop]
        subst hb1
        simp only [hce, asBool, Sem.run_bind, Sem.run_pure, Result.andThen_ok, if_true, hxe, FV.den]
      · rename_i v hx hy
        cases h
        obtain ⟨hb', hkk⟩ := hR
        refine ⟨_, hkk, fun m hml => FV.wf_mono hml (opdP_wf hw false y v hy), fun w _ hu => ?_⟩
        have hb1 := whenP_use hb hu hb'
        have hce : a.eval c = .bool b := opd_sound hk hu hc
        have hye := opdP_sound hk hu hc false y v hb1 hy
        unfold execOp
        rw [hop]
        subst hb1
        simp only [hce, asBool, Sem.run_bind, Sem.run_pure, Result.andThen_ok, Bool.false_eq_true, if_false, hye, FV.den]
      · cases h
    · cases h
  · -- load
    rename_i t x hop
    split at h
    · rename_i i off hx
      split at h
      · rename_i c hc
        split at h
        · rename_i xs hxs
          split at h
          · rename_i ti hti
            have hok := tlook_ok htt hti
            have hat := fun w (hw : C w) => Ch.cells_at ((hm w hw).sat i c hc) hxs
            split at h
            · rename_i ha
              cases h
              obtain ⟨row, hcl, hrow, hkk⟩ := hR
              refine ⟨_, hkk, fun m hml y hy => SV.wfB_mono (Nat.zero_le _) (allB_spec hcl y hy), fun w hwc hu => ?_⟩
              obtain ⟨hlen, hseg⟩ := whenP_use hb hu hrow
              have hl : (row.map SV.cv).length = ti.size := by
                have h1 : (seg xs off ti.size).length ≤ ti.size := by simp [seg]; omega
                rw [hseg] at h1; simp at h1 ⊢; omega
              have hlc := run_loadCells_list (P := P) w ⟨(β i).g, (β i).o + off, none⟩ (row.map SV.cv) (fun j v hv => by
                rw [← hseg] at hv
                obtain ⟨h1, _⟩ := seg_get hv
                rw [addr_add, Nat.add_assoc]
                exact (hat w hwc _ v h1).2)
              rw [hl] at hlc
              unfold execOp
              rw [hop]
              simp [opd_sound hk hu hx, SV.den, Instr.loadAt, Instr.sureAddr, loadVar, isAgg_run hok, ha, sizeOf_run hok, hlc, FV.den, TV.den, SV.map_cv hcl]
            · rename_i ha
              cases h
              obtain ⟨v, hcl, hv, hkk⟩ := hR
              refine ⟨_, hkk, fun m hml => SV.wfB_mono (Nat.zero_le _) hcl, fun w hwc hu => ?_⟩
              have hv' := (hat w hwc off _ (whenP_use hb hu hv)).2
              unfold execOp
              rw [hop]
              simp only [opd_sound hk hu hx, den_loc]
              simp [Instr.loadAt, Instr.sureAddr, loadVar, isAgg_run hok, ha, hv', FV.den, TV.den, SV.cv_den hcl]
          · cases h
        · cases h
      · cases h
    · cases h
  · -- indexAddr
    rename_i t x y hop
    split at h
    · rename_i i off len cap kk n hx hy
      split at h
      · rename_i c hc
        split at h
        · rename_i xs hxs
          split at h
          · rename_i ti hti
            have hok := (tlook_ok htt hti).kd
            split at h
            · rename_i e sz by_ hkd
              obtain ⟨ie, hu', hi, hsz, _⟩ := kd_slice (hok.trans hkd)
              split at h
              · cases h
              · rename_i sz'
                cases h
                obtain ⟨j, hj, hkk⟩ := hR
                have hwx := opd_wf hw hx
                refine ⟨_, hkk, fun m hml => ?_, fun w hwc hu => ?_⟩
                · simp only [TV.wf, SV.wf] at hwx
                  simp only [FV.wf, TV.wf, SV.wf]; omega
                · obtain ⟨rfl, hlt, hle⟩ := whenP_use hb hu hj
                  have hpos : off < xs.length := by
                    have : (j + 1) * (sz' + 1) ≥ 1 := Nat.succ_le_of_lt (Nat.mul_pos (by omega) (by omega))
                    omega
                  have hnil := (Ch.cells_at ((hm w hwc).sat i c hc) hxs off _ (List.getElem?_eq_getElem hpos)).1
                  unfold execOp
                  rw [hop]
                  simp [opd_sound hk hu hx, opd_sound hk hu hy, hnil, Instr.indexAt, TV.den, SV.den, FV.den, asIntOf, run_underlying hu', hlt, sizeOf_of hi, hsz, addr_add, Nat.add_assoc]
            · cases h
          · cases h
        · cases h
      · cases h
    · cases h
  · -- a letter of a string
    rename_i t x y hop
    split at h
    · rename_i l kk n hx hy
      split at h
      · rename_i ti hti
        split at h
        · rename_i hkd
          cases h
          obtain ⟨j, b, hj, hkk⟩ := hR
          refine ⟨_, hkk, fun _ _ => trivial, fun w _ hu => ?_⟩
          obtain ⟨rfl, hb'⟩ := whenP_use hb hu hj
          have hu' := kd_str ((tlook_ok htt hti).kd.trans hkd)
          unfold execOp
          rw [hop]
          have ex := opd_sound hk hu hx
          have ey := opd_sound hk hu hy
          simp only [TV.den, SV.den] at ex ey
          have hlt := (List.getElem?_eq_some_iff.1 hb').1
          have hget : (ByteArray.mk l.toArray)[j]? = some b := by
            have e : (ByteArray.mk l.toArray).size = l.length := by show l.toArray.size = _; simp
            have hlt' : j < (ByteArray.mk l.toArray).size := by rw [e]; exact hlt
            rw [getElem?_pos (ByteArray.mk l.toArray) j hlt']
            have : (ByteArray.mk l.toArray)[j] = l[j] := rfl
            rw [this]
            rw [List.getElem?_eq_getElem hlt] at hb'
            exact hb'
          simp only [ex, ey, Sem.run_bind, Instr.index, asIntOf, Sem.run_pure, Result.andThen_ok, run_underlying hu', Int.toNat_natCast, if_pos (Int.natCast_nonneg j), hget]
          rfl
        · cases h
      · cases h
    · cases h
  · -- shifts and divisions
    rename_i op T x y T' hop
    split at h
    · split at h
      · rename_i kk na kb nb hx hy
        have shiftRun : ∀ (sop : BinOp) (m : Nat) (v : SV), nb = (m : Int) → shI sop kk na (m : Int) = some v → o.op = .binOp sop T x y T' → ∀ w : World, Under g a → (execOp a.eval o).run P w = .ok (.value (v.den β)) w := by
          intro sop m v hm' hv ho w hu
          unfold execOp
          rw [ho]
          have ex := opd_sound hk hu hx
          have ey := opd_sound hk hu hy
          simp only [TV.den, SV.den] at ex ey
          subst hm'
          simp only [ex, ey]
          rw [Sem.run_bind, Sem.run_bind, eqGuard_int]
          simp only [Result.andThen_ok]
          rw [shI_sound (β := β) hv]
          rfl
        have divRun : ∀ (dop : BinOp) (v : SV), Nat.beq (kn kk) (kn kb) = true → nb ≠ 0 → ((dop = .quo ∧ v = .int kk (kk.wrap (na.tdiv nb))) ∨ (dop = .rem ∧ v = .int kk (na.tmod nb))) → o.op = .binOp dop T x y T' → ∀ w : World, Under g a → (execOp a.eval o).run P w = .ok (.value (v.den β)) w := by
          intro dop v hkk hne hv ho w hu
          have := kn_eq hkk
          subst this
          unfold execOp
          rw [ho]
          have ex := opd_sound hk hu hx
          have ey := opd_sound hk hu hy
          simp only [TV.den, SV.den] at ex ey
          simp only [ex, ey]
          rw [Sem.run_bind, Sem.run_bind, eqGuard_int]
          rcases hv with ⟨rfl, rfl⟩ | ⟨rfl, rfl⟩ <;> simp [binOp, Op.intDiv, hne, SV.den]
        split at h <;> first | (cases h; done) | (simp only [symBin, Option.some.injEq] at h; subst h)
        · obtain ⟨hm', hkk⟩ := hR
          exact ⟨_, hkk, fun _ _ => trivial, fun w _ hu => shiftRun .shl nb.toNat _ (Int.toNat_of_nonneg (whenP_use hb hu hm')).symm rfl hop w hu⟩
        · obtain ⟨hm', hkk⟩ := hR
          exact ⟨_, hkk, fun _ _ => trivial, fun w _ hu => shiftRun .shr nb.toNat _ (Int.toNat_of_nonneg (whenP_use hb hu hm')).symm rfl hop w hu⟩
        · have hkn : Nat.beq (kn kk) (kn kb) = true := by assumption
          obtain ⟨hne, hkk⟩ := hR
          exact ⟨_, hkk, fun _ _ => trivial, fun w _ hu => divRun .quo _ hkn (whenP_use hb hu hne) (.inl ⟨rfl, rfl⟩) hop w hu⟩
        · have hkn : Nat.beq (kn kk) (kn kb) = true := by assumption
          obtain ⟨hne, hkk⟩ := hR
          exact ⟨_, hkk, fun _ _ => trivial, fun w _ hu => divRun .rem _ hkn (whenP_use hb hu hne) (.inr ⟨rfl, rfl⟩) hop w hu⟩
      · cases h
    · cases h
  · -- convert
    rename_i src dst x hop
    split at h
    · rename_i n0 c0 hx
      split at h
      · rename_i ti td hti htd
        split at h
        · rename_i e sz by_ hk1 hk2
          split at h
          · rename_i te hte
            split at h
            · rename_i hke
              cases h
              refine ⟨_, hR, fun m hml => trivial, fun w hwc hu => ?_⟩
              obtain ⟨ie, hu1, hi, hsz, _⟩ := kd_slice ((tlook_ok htt hti).kd.trans hk1)
              have hu2 := kd_str ((tlook_ok htt htd).kd.trans hk2)
              have hu3 := kd_int ((tlook_ok htt hte).kd.trans hke)
              unfold execOp
              rw [hop]
              have ex := opd_sound hk hu hx
              simp only [TV.den, SV.den] at ex
              simp only [ex]
              rw [Sem.run_bind, run_convert_bytes_string w src dst e _ _ _ hu1 hu3 hu2]
              simp [Conv.bytesToString, FV.den, TV.den, SV.den]; rfl
            · cases h
          · cases h
        · cases h
      · cases h
    · rename_i i off len cap hx
      split at h
      · rename_i c hc
        split at h
        · rename_i xs hxs
          split at h
          · rename_i ti td hti htd
            split at h
            · rename_i e sz by_ hk1 hk2
              split at h
              · rename_i te hte
                split at h
                · rename_i hke
                  cases h
                  obtain ⟨l, hl, hkk⟩ := hR
                  refine ⟨_, hkk, fun m hml => trivial, fun w hwc hu => ?_⟩
                  obtain ⟨hseg, hlen⟩ := whenP_use hb hu hl
                  obtain ⟨ie, hu1, hi, hsz, _⟩ := kd_slice ((tlook_ok htt hti).kd.trans hk1)
                  have hu2 := kd_str ((tlook_ok htt htd).kd.trans hk2)
                  have hu3 := kd_int ((tlook_ok htt hte).kd.trans hke)
                  unfold execOp
                  rw [hop]
                  simp only [opd_sound hk hu hx, den_sl]
                  rw [Sem.run_bind, run_convert_bytes_string w src dst e _ _ _ hu1 hu3 hu2]
                  cases hn : (β i).nil with
                  | true =>
                    have : l = [] := by
                      cases l with
                      | nil => rfl
                      | cons n l =>
                        obtain ⟨h1, _⟩ := seg_get (xs := xs) (off := off) (n := len) (j := 0) (v := .int .u8 n) (by rw [hseg]; rfl)
                        have := (Ch.cells_at ((hm w hwc).sat i c hc) hxs _ _ h1).1
                        rw [hn] at this; cases this
                    subst this
                    simp [Conv.bytesToString, FV.den, TV.den, SV.den]; rfl
                  | false =>
                    have hlc := run_loadCells_list (P := P) w ⟨(β i).g, (β i).o + off, none⟩ (l.map (Value.int .u8)) (fun j v hv => by
                      rw [← hseg] at hv
                      obtain ⟨h1, _⟩ := seg_get hv
                      rw [addr_add, Nat.add_assoc]
                      exact (Ch.cells_at ((hm w hwc).sat i c hc) hxs _ v h1).2)
                    simp only [List.length_map, hlen] at hlc
                    simp only [cond_false]
                    rw [run_bytesToString w _ len cap l hlc, foldl_push]
                    simp [FV.den, TV.den, SV.den]
                · cases h
              · cases h
            · cases h
          · cases h
        · cases h
      · cases h
    · cases h
  · cases h

theorem evX_sound {P : Program} {tt : TT} (htt : TTok P tt) {β : Nat → Bd} {fr : Fr} {g : Gd} {gb : Option (Bool × Bool)} {σ : List Ch} {φ : Heap} {a : Act} {w : World} (hk : Knows β fr a)
    (hb : GuardB a g gb) (hw : ∀ e ∈ fr, e.2.1.wf σ.length) (hm : Sat β σ φ w) {o : Oper} {k : FV → Prop} {R : Prop} (h : evX tt fr g gb σ o.op k = some R) (hR : R) :
    ∃ v, k v ∧ (∀ m, σ.length ≤ m → v.wf m) ∧ (Under g a → (execOp a.eval o).run P w = .ok (.value (v.den β)) w) := by
  obtain ⟨v, h1, h2, h3⟩ := evX_soundC (P := P) (C := fun w' => w' = w) (φ := φ) htt hk hb hw (fun w' hw' => by rw [hw']; exact hm) h hR
  exact ⟨v, h1, h2, h3 w rfl⟩

end Go.Sx

namespace Go.Sx
open Go

/-- A chunk for a weaker one. -/
theorem Sat.weak {β : Nat → Bd} {σ : List Ch} {φ : Heap} {w : World} (h : Sat β σ φ w) {i : Nat} {c c' : Ch} (hi : σ[i]? = some c)
    (hf : ∀ g, g ∈ c'.foot (β i) → g ∈ c.foot (β i)) (hrf : ∀ g, g ∈ c'.rfoot (β i) → g ∈ c.rfoot (β i)) (hwf : c'.wf σ.length) (hs : c'.sat β (β i) w) : Sat β (σ.set i c') φ w := by
  have hlt := (List.getElem?_eq_some_iff.1 hi).1
  have split : ∀ (j : Nat) (d : Ch), (σ.set i c')[j]? = some d → (j = i ∧ d = c') ∨ (j ≠ i ∧ σ[j]? = some d) := by
    intro j d hd
    by_cases hij : i = j
    · subst hij; rw [List.getElem?_set_self hlt] at hd; exact .inl ⟨rfl, (Option.some.inj hd).symm⟩
    · rw [List.getElem?_set_ne hij] at hd; exact .inr ⟨fun e => hij e.symm, hd⟩
  refine ⟨?_, ?_, ?_, h.frame, ?_⟩
  · intro j k d e hj hk' hjk g hg
    rcases split j d hj with ⟨rfl, rfl⟩ | ⟨hj1, hj2⟩ <;> rcases split k e hk' with ⟨rfl, rfl⟩ | ⟨hk1, hk2⟩
    · exact absurd rfl hjk
    · exact h.disj _ k c e hi hk2 hjk g (hf g hg)
    · exact fun hg' => h.disj j _ d c hj2 hi hjk g hg (hrf g hg')
    · exact h.disj j k d e hj2 hk2 hjk g hg
  · intro j d hj g hg
    rcases split j d hj with ⟨rfl, rfl⟩ | ⟨hj1, hj2⟩
    · exact h.off _ c hi g (hf g hg)
    · exact h.off j d hj2 g hg
  · intro j d hj
    rcases split j d hj with ⟨rfl, rfl⟩ | ⟨hj1, hj2⟩
    · exact hs
    · exact h.sat j d hj2
  · intro d hd
    rw [List.length_set]
    rcases List.mem_or_eq_of_mem_set hd with hd | rfl
    · exact h.wf d hd
    · exact hwf

theorem Sat.kill {β : Nat → Bd} {σ : List Ch} {φ : Heap} {w : World} (h : Sat β σ φ w) (i : Nat) : Sat β (σ.set i .dead) φ w := by
  cases hi : σ[i]? with
  | none =>
    have : σ.set i .dead = σ := List.set_eq_of_length_le (by simpa using hi)
    rw [this]; exact h
  | some c => exact h.weak hi (fun g hg => by simp [Ch.foot] at hg) (fun g hg => by simp [Ch.rfoot, Ch.foot] at hg) trivial trivial

/-- What a step that changes the chunks yields. -/
structure Eff (P : Program) (F : Nat → Prop) (β : Nat → Bd) (σ : List Ch) (φ : Heap) (w : World) (v : FV) (β' : Nat → Bd) (σ' : List Ch) (w' : World) : Prop where
  ext : ∀ i, i < σ.length → β' i = β i
  len : σ.length ≤ σ'.length
  sat : Sat β' σ' φ w'
  same : Same w w'
  wf : v.wf σ'.length
  src : ∀ (l : Nat) (d : Ch), σ'[l]? = some d → ∀ g, g ∈ d.rfoot (β' l) → F g ∨ w.heap.size ≤ g

theorem set_append_get {σ : List Ch} {i l : Nat} {c d : Ch} (h : (σ.set i .dead ++ [c])[l]? = some d) : (d = .dead) ∨ (l < σ.length ∧ l ≠ i ∧ σ[l]? = some d) ∨ (l = σ.length ∧ d = c) := by
  rcases Nat.lt_trichotomy l σ.length with hl | hl | hl
  · rw [List.getElem?_append_left (by simpa using hl)] at h
    by_cases hil : i = l
    · subst hil; rw [List.getElem?_set_self hl] at h; exact .inl (Option.some.inj h).symm
    · rw [List.getElem?_set_ne hil] at h; exact .inr (.inl ⟨hl, fun e => hil e.symm, h⟩)
  · subst hl
    rw [List.getElem?_append_right (by simp)] at h
    simp at h; exact .inr (.inr ⟨rfl, h.symm⟩)
  · rw [List.getElem?_eq_none (by simp; omega)] at h; cases h
theorem append_get {σ : List Ch} {l : Nat} {c d : Ch} (h : (σ ++ [c])[l]? = some d) : (l < σ.length ∧ σ[l]? = some d) ∨ (l = σ.length ∧ d = c) := by
  rcases Nat.lt_trichotomy l σ.length with hl | hl | hl
  · rw [List.getElem?_append_left hl] at h; exact .inl ⟨hl, h⟩
  · subst hl
    rw [List.getElem?_append_right (by simp)] at h
    simp at h; exact .inr ⟨rfl, h.symm⟩
  · rw [List.getElem?_eq_none (by simp; omega)] at h; cases h

/-- A new row of cells in a new block. -/
theorem eff_new {P : Program} {F : Nat → Prop} {β : Nat → Bd} {σ : List Ch} {φ : Heap} {w : World} (hm : Sat β σ φ w) (hF : ∀ (l : Nat) (d : Ch), σ[l]? = some d → ∀ g, g ∈ d.rfoot (β l) → F g ∨ w.heap.size ≤ g)
    (e sz cap n : Nat) (xs sp : List Value) (hl : (xs ++ sp).length = cap * sz) (hcap : cap ≤ maxLen) (w' : World) (hw : w' = w ∨ w' = w.drew) :
    ∃ β', Eff P F β σ φ w (.t (.s (.sl σ.length 0 n cap))) β' (σ ++ [.own e sz cap xs]) (w'.alloc (.cells (xs ++ sp).toArray e (0, 0))) ∧ β' σ.length = ⟨w.heap.size, 0, false⟩ := by
  have hh : w'.heap = w.heap := by rcases hw with rfl | rfl <;> rfl
  have hs' : w'.heap.size = w.heap.size := by rw [hh]
  have hpush := hm.push (w' := w'.alloc (.cells (xs ++ sp).toArray e (0, 0))) (.own e sz cap xs) ⟨w.heap.size, 0, false⟩
    (fun g hg _ => by rw [RowKit.Below.heap_alloc w' _ g (by rw [hh]; exact hg), hh])
    (fun g hg => by simp [Ch.foot] at hg; exact .inl (by omega)) (fun g hg => by simp [Ch.rfoot, Ch.foot] at hg; exact .inl (by omega)) trivial
    (fun β' _ _ => .inr ⟨⟨rfl, rfl, hcap⟩, sp, hl, by have := heap_alloc_new w' (.cells (xs ++ sp).toArray e (0, 0)); rw [hs'] at this; exact this⟩)
  obtain ⟨β', h1, h2, h3⟩ := hpush
  refine ⟨β', ⟨h1, by simp, h3, ?_, by simp [FV.wf, TV.wf, SV.wf], ?_⟩, h2⟩
  · rcases hw with rfl | rfl
    · exact Same.alloc _ _
    · exact (Same.drew w).trans (Same.alloc _ _)
  · intro l d hd g hg
    rcases append_get hd with ⟨hl', hd'⟩ | ⟨rfl, rfl⟩
    · rw [h1 l hl'] at hg; exact hF l d hd' g hg
    · rw [h2] at hg; simp [Ch.rfoot, Ch.foot] at hg; exact .inr (by omega)

/-! ### Slice literals -/
def bsCells (fr : Fr) : Nat → List (Nat × Operand) → Option (List (List SV))
  | _, [] => some []
  | k, (i, x) :: l => match Nat.beq i k, opd fr none x with
    | true, some v => match v.cells with
      | some cs => match allB (SV.wfB 0) cs, bsCells fr (k + 1) l with
        | true, some r => some (cs :: r)
        | _, _ => none
      | none => none
    | _, _ => none

def sameLen (n : Nat) : List (List SV) → Bool
  | [] => true
  | c :: l => match Nat.beq c.length n with
    | true => sameLen n l
    | false => false

def joinL : List (List SV) → List SV
  | [] => []
  | c :: l => c ++ joinL l

theorem bsCells_sound {β : Nat → Bd} {fr : Fr} {m : Nat} {a : Act} (hk : Knows β fr a) (hw : ∀ e ∈ fr, e.2.1.wf m) : ∀ {k : Nat} {l : List (Nat × Operand)} {r : List (List SV)}, bsCells fr k l = some r →
    l.map (·.1) = List.range' k l.length ∧ l.map (fun p => (a.eval p.2).cells) = r.map (fun cs => (cs.map SV.cv).toArray)
  | _, [], r, h => by simp [bsCells] at h; subst h; simp
  | k, (i, x) :: l, r, h => by
    simp only [bsCells] at h
    split at h
    · rename_i v hi hv
      split at h
      · rename_i cs hcs
        split at h
        · rename_i r' hcl hr
          cases h
          have := Nat.eq_of_beq_eq_true hi
          subst this
          have ih := bsCells_sound hk hw hr
          refine ⟨by simp [ih.1, List.range'_succ], ?_⟩
          simp only [List.map_cons, ih.2, opd_sound (g := none) hk trivial hv, TV.cells_den (β := β) (opd_wf hw hv) hcs, SV.map_cv hcl]
        · cases h
      · cases h
    · cases h

theorem zip_range : ∀ (l : List (Nat × Value)) (k : Nat), l.map (·.1) = List.range' k l.length → ((l.map (·.2)).zipIdx k).map (fun p => (p.2, p.1)) = l
  | [], _, _ => rfl
  | (i, v) :: l, k, h => by
    simp only [List.map_cons, List.length_cons, List.range'_succ, List.cons.injEq] at h
    obtain ⟨h1, h2⟩ := h
    simp only [List.map_cons, List.zipIdx_cons, zip_range l (k + 1) h2, h1]

theorem joinL_cells (vs : List Value) (r : List (List SV)) (h : vs.map Value.cells = r.map (fun cs => (cs.map SV.cv).toArray)) : (vs.flatMap fun v => v.cells.toList) = (joinL r).map SV.cv := by
  induction vs generalizing r with
  | nil => cases r with
    | nil => rfl
    | cons c r => simp at h
  | cons v vs ih =>
    cases r with
    | nil => simp at h
    | cons c r =>
      simp only [List.map_cons, List.cons.injEq] at h
      simp only [List.flatMap_cons, joinL, List.map_append, ih r h.2, h.1]

theorem sameLen_spec {n : Nat} : ∀ {r : List (List SV)}, sameLen n r = true → ∀ c ∈ r, c.length = n
  | [], _ => by simp
  | c :: r, h => by
    simp only [sameLen] at h
    split at h
    · rename_i hb
      intro d hd
      rcases List.mem_cons.1 hd with rfl | hd
      · exact Nat.eq_of_beq_eq_true hb
      · exact sameLen_spec h d hd
    · cases h

theorem joinL_length {n : Nat} : ∀ {r : List (List SV)}, (∀ c ∈ r, c.length = n) → (joinL r).length = r.length * n
  | [], _ => by simp [joinL]
  | c :: r, h => by
    simp only [joinL, List.length_append, List.length_cons, Nat.add_mul, Nat.one_mul, joinL_length (fun d hd => h d (List.mem_cons_of_mem _ hd)), h c (List.mem_cons_self)]
    omega

theorem info_of {P : Program} {e : TypeId} {te : TI} (h : TIok P e te) : ∃ i, P.info? e = some i ∧ i.size = te.size ∧ i.zero = some te.zv := by
  have h1 := h.size
  have h2 := h.zero
  cases hi : P.info? e with
  | none => simp [hi] at h1
  | some i => simp [hi] at h1 h2; exact ⟨i, rfl, h1, h2⟩

/-- A small slice literal, written out. -/
theorem build_run {P : Program} {tt : TT} (htt : TTok P tt) {t e len sz bytes : Nat} {ti te : TI} (hti : tlook t tt = some ti) (hkd : ti.kd = .slice e sz bytes) (hte : tlook e tt = some te)
    {parts : List (Nat × Value)} {r : List (List SV)} (h1 : parts.map (·.1) = List.range' 0 parts.length) (h2 : parts.map (fun p => p.2.cells) = r.map (fun cs => (cs.map SV.cv).toArray))
    (hlen : parts.length = len) (hs : ∀ c ∈ r, c.length = sz) (hpos : 0 < sz) (hsm : len * sz ≤ 16777216) (w : World) :
    (Instr.buildSlice t len parts.toArray).run P w = .ok (.slice (some ⟨w.heap.size, 0, none⟩) len len) (w.alloc (.cells ((joinL r).map SV.cv).toArray e)) := by
  obtain ⟨ie, hu, hi, hsz, _⟩ := kd_slice ((tlook_ok htt hti).kd.trans hkd)
  obtain ⟨ie', hi', hs', hzz⟩ := info_of (tlook_ok htt hte)
  rw [hi] at hi'
  cases hi'
  have hvs : (parts.map (·.2)).map Value.cells = r.map (fun cs => (cs.map SV.cv).toArray) := by rw [List.map_map]; exact h2
  have hfill := Great.fill_whole (s := sz) hpos (parts.map (·.2)) ((Array.range (len * ie.size)).map (te.zv.cells[· % te.zv.cells.size]!)) (fun v hv => by
    have : v.cells ∈ (parts.map (·.2)).map Value.cells := List.mem_map.2 ⟨v, hv, rfl⟩
    rw [hvs] at this
    obtain ⟨c, hc, he⟩ := List.mem_map.1 this
    rw [← he]; simp [hs c hc]) (by simp [hlen, hsz])
  rw [zip_range parts 0 h1, joinL_cells _ r hvs] at hfill
  by_cases h0 : len = 0
  · subst h0
    have : parts = [] := List.length_eq_zero_iff.1 hlen
    subst this
    have hr : r = [] := by simpa using h2.symm
    subst hr
    have h0 : ∀ (f : Nat → Value), Array.map f (Array.range 0) = #[] := fun f => by apply Array.ext' ; simp
    simp [Instr.buildSlice, run_underlying hu, sizeOf, typeInfo, hi, newRow, Instr.fill, joinL, h0]
  · refine run_buildSlice w t e len parts.toArray _ ie te.zv hu hi hzz (by rw [hsz]; omega) ?_ (by simpa [hsz] using hfill)
    rw [hsz]
    have := Nat.mul_pos (Nat.pos_of_ne_zero h0) hpos
    omega

/-! ### append -/
def bytesV (l : List UInt8) : List Value := l.map fun b => Value.int .u8 b.toNat

theorem append_room {P : Program} (w : World) (t tx ty e : TypeId) (i : TypeInfo) (ht : P.underlying t = some (.slice e)) (hi : P.info? e = some i) (g sLen sCap : Nat) (cur : Array Value) (hg : w.heap[g]? = some (.cells cur e (0, 0)))
    (x : Value) (n : Nat) (news : List Value) (hs : Src P i.size tx x n news w) (hroom : sLen + n ≤ sCap) (hfit : sLen * i.size + news.length ≤ cur.size) :
    (Builtin.append_ #[t, tx] ty #[.slice (some ⟨g, 0, none⟩) sLen sCap, x]).run P w =
      .ok (.slice (some ⟨g, 0, none⟩) (sLen + n) sCap) (w.setRow g (cur.toList.take (sLen * i.size) ++ news ++ cur.toList.drop (sLen * i.size + news.length)).toArray) := by
  have hst := run_storeCells_at P g (sLen * i.size) e news 0 cur w hg (by simpa using hfit) hs.one
  simp only [Nat.add_zero] at hst
  rcases hs.kind with ⟨e', hk⟩ | hk <;> simp [Builtin.append_, run_underlying ht, run_underlying hk, sizeOf, typeInfo, hi, hs.len, hroom, hs.cells, Addr.add_lit, hst]

theorem append_none {P : Program} (w : World) (t tx ty e : TypeId) (i : TypeInfo) (ht : P.underlying t = some (.slice e)) (hi : P.info? e = some i)
    (x : Value) (hs : Src P i.size tx x 0 [] w) : (Builtin.append_ #[t, tx] ty #[.slice none 0 0, x]).run P w = .ok (.slice none 0 0) w := by
  rcases hs.kind with ⟨e', hk⟩ | hk <;> simp [Builtin.append_, run_underlying ht, run_underlying hk, sizeOf, typeInfo, hi, hs.len, hs.cells]

/-- Owned, as the model has it. -/
theorem eff_append {P : Program} {F : Nat → Prop} {β : Nat → Bd} {σ : List Ch} {φ : Heap} {w : World} (hm : Sat β σ φ w) (hF : ∀ (l : Nat) (d : Ch), σ[l]? = some d → ∀ g, g ∈ d.rfoot (β l) → F g ∨ w.heap.size ≤ g)
    (t tx ty e : TypeId) (ie : TypeInfo) (z : Value) (ht : P.underlying t = some (.slice e)) (hi : P.info? e = some ie) (hz : ie.zero = some z) (hzs : z.cells.size = ie.size)
    {i cap n : Nat} {xs : List Value} (hc : σ[i]? = some (.own e ie.size cap xs)) (hn : xs.length = n * ie.size)
    (x : Value) (m : Nat) (news : List Value) (hs : Src P ie.size tx x m news w) (h63 : n + m ≤ maxLen) (hb : (n + m) * ie.bytes ≤ 140737488355328) (hpos : 0 < ie.size) :
    ∃ cap' β' w', n + m ≤ cap' ∧ cap' ≤ maxLen ∧ (Builtin.append_ #[t, tx] ty #[TV.den β (.s (.sl i 0 n cap)), x]).run P w = .ok (FV.den β' (.t (.s (.sl σ.length 0 (n + m) cap')))) w' ∧
      Eff P F β σ φ w (.t (.s (.sl σ.length 0 (n + m) cap'))) β' (σ.set i .dead ++ [.own e ie.size cap' (xs ++ news)]) w' := by
  have hlt := (List.getElem?_eq_some_iff.1 hc).1
  have hkill := hm.kill i
  have hF' : ∀ (l : Nat) (d : Ch), (σ.set i .dead)[l]? = some d → ∀ g, g ∈ d.rfoot (β l) → F g ∨ w.heap.size ≤ g := by
    intro l d hd g hg
    by_cases hil : i = l
    · subst hil
      rw [List.getElem?_set_self hlt] at hd; cases hd
      simp [Ch.rfoot, Ch.foot] at hg
    · rw [List.getElem?_set_ne hil] at hd; exact hF l d hd g hg
  have h63' : ((n + m : Nat) : Int) ≤ 9223372036854775807 := by simp only [maxLen] at h63; omega
  have hnl := hs.newsLen
  have hlenS : (σ.set i .dead).length = σ.length := by simp
  -- a new row
  have grow : ∀ (base : Option Addr), (TV.den β (.s (.sl i 0 n cap)) = .slice base n cap) → cap < n + m → (Builtin.firstCells ie.size n (.slice base n cap)).run P w.drew = .ok xs.toArray w.drew →
      ∃ cap' β' w', n + m ≤ cap' ∧ cap' ≤ maxLen ∧ (Builtin.append_ #[t, tx] ty #[TV.den β (.s (.sl i 0 n cap)), x]).run P w = .ok (FV.den β' (.t (.s (.sl σ.length 0 (n + m) cap')))) w' ∧
      Eff P F β σ φ w (.t (.s (.sl σ.length 0 (n + m) cap'))) β' (σ.set i .dead ++ [.own e ie.size cap' (xs ++ news)]) w' := by
    intro base hden hg hold
    have hr := run_append_grow_src w t tx ty e ie z ht hi hz base n cap xs hold x m news hs hg h63' (growslice_fits hg hb)
    have hge := grownCap_ge w (n + m) cap e
    have hle := grownCap_le_maxLen w (n + m) cap e h63
    obtain ⟨β', he, hβ⟩ := eff_new (P := P) (F := F) hkill hF' e ie.size (grownCap w (n + m) cap e) (n + m) (xs ++ news) (Builtin.zeroCells z.cells (grownCap w (n + m) cap e - (n + m))).toList
      (by
        simp only [List.length_append, Array.length_toList, Builtin.zeroCells, hn, hnl]
        simp
        rw [hzs, ← Nat.add_mul, ← Nat.add_mul]
        congr 1; omega) hle w.drew (.inr rfl)
    rw [hlenS] at he hβ
    refine ⟨_, β', _, hge, hle, ?_, he.ext |> fun h => ⟨fun j hj => h j (by simpa using hj), by simp, he.sat, he.same, he.wf, he.src⟩⟩
    rw [hden, hr]
    have e1 : FV.den β' (.t (.s (.sl σ.length 0 (n + m) (grownCap w (n + m) cap e)))) = .slice (some ⟨w.heap.size, 0, none⟩) (n + m) (grownCap w (n + m) cap e) := by
      simp [FV.den, TV.den, SV.den, hβ]
    rw [e1]
    congr 2
    simp
  rcases hm.sat i _ hc with ⟨hnil, rfl, rfl⟩ | ⟨⟨hnil, ho, hcm⟩, sp, hl, hcell⟩
  · have hn0 : n = 0 := by
      rcases Nat.eq_zero_or_pos n with h | h
      · exact h
      · have := Nat.mul_pos h hpos
        simp at hn; omega
    subst hn0
    rcases Nat.eq_zero_or_pos m with rfl | hmp
    · -- nothing onto nil
      have hnews : news = [] := List.length_eq_zero_iff.1 (by rw [hnl]; omega)
      subst hnews
      have hr := append_none w t tx ty e ie ht hi x hs
      obtain ⟨β', h1, h2, h3⟩ := hkill.push (w' := w) (.own e ie.size 0 []) (β i) (fun _ _ _ => rfl) (fun g hg => by simp [Ch.foot, hnil] at hg) (fun g hg => by simp [Ch.rfoot, Ch.foot, hnil] at hg) trivial
        (fun β' _ _ => .inl ⟨hnil, rfl, rfl⟩)
      rw [hlenS] at h1 h2
      refine ⟨0, β', w, Nat.le_refl _, Nat.zero_le _, ?_, fun j hj => h1 j hj, by simp, h3, Same.refl w, by simp [FV.wf, TV.wf, SV.wf], ?_⟩
      · have e1 : TV.den β (.s (.sl i 0 0 0)) = .slice none 0 0 := by simp [TV.den, SV.den, hnil]
        have e2 : FV.den β' (.t (.s (.sl σ.length 0 (0 + 0) 0))) = .slice none 0 0 := by simp [FV.den, TV.den, SV.den, h2, hnil]
        rw [e1, e2]; exact hr
      · intro l d hd g hg
        rcases append_get hd with ⟨hl', hd'⟩ | ⟨rfl, rfl⟩
        · rw [h1 l (by simpa using hl')] at hg; exact hF' l d hd' g hg
        · simp [Ch.rfoot, Ch.foot, h2, hnil] at hg
    · refine grow none (by simp [TV.den, SV.den, hnil]) (by omega) ?_
      exact run_firstCells_none w.drew ie.size 0 0 0
  · have hden : TV.den β (.s (.sl i 0 n cap)) = .slice (some ⟨(β i).g, 0, none⟩) n cap := by simp [TV.den, SV.den, hnil, ho]
    rcases Nat.lt_or_ge cap (n + m) with hg | hroom
    · refine grow _ hden hg ?_
      exact run_firstCells_some w.drew ie.size n _ n cap xs hn (fun j v hv => by
        rw [Addr.add_lit, Nat.zero_add, World.cell?_drew, cell_blk hcell, List.getElem?_append_left (List.getElem?_eq_some_iff.1 hv).1]; exact hv)
    · -- room
      have hroom' : (n + m) * ie.size ≤ cap * ie.size := Nat.mul_le_mul_right _ hroom
      rw [Nat.add_mul] at hroom'
      have hr := append_room w t tx ty e ie ht hi (β i).g n cap _ hcell x m news hs hroom (by simp only [List.size_toArray]; omega)
      have hcells : ((xs ++ sp).take (n * ie.size) ++ news ++ (xs ++ sp).drop (n * ie.size + news.length)) = (xs ++ news) ++ sp.drop news.length := by
        rw [← hn]
        simp [List.drop_append]
      have hrow := setRow_heap w (β i).g _ (((xs ++ news) ++ sp.drop news.length).toArray) e (0, 0) hcell
      obtain ⟨β', h1, h2, h3⟩ := hkill.push (w' := w.setRow (β i).g ((xs ++ news) ++ sp.drop news.length).toArray) (.own e ie.size cap (xs ++ news)) (β i)
        (fun g _ hg => setRow_other w (β i).g g _ (by simpa [Ch.foot, hnil] using hg))
        (fun g hg => by
          have hgf : g ∈ (Ch.own e ie.size cap xs).foot (β i) := hg
          refine .inr ⟨fun j d hd hg' => ?_, hm.off i _ hc g hgf⟩
          by_cases hij : i = j
          · subst hij; rw [List.getElem?_set_self hlt] at hd; cases hd; simp [Ch.rfoot, Ch.foot] at hg'
          · rw [List.getElem?_set_ne hij] at hd; exact hm.disj i j _ d hc hd hij g hgf hg')
        (fun g hg => by
          have hgf : g ∈ (Ch.own e ie.size cap xs).rfoot (β i) := hg
          refine .inr fun j d hd hg' => ?_
          by_cases hij : i = j
          · subst hij; rw [List.getElem?_set_self hlt] at hd; cases hd; simp [Ch.foot] at hg'
          · rw [List.getElem?_set_ne hij] at hd; exact hm.disj j i d _ hd hc (fun e => hij e.symm) g hg' hgf)
        trivial (fun β' _ _ => .inr ⟨⟨hnil, ho, hcm⟩, sp.drop news.length, by
          simp only [List.length_append, List.length_drop] at hl ⊢
          omega, hrow⟩)
      rw [hlenS] at h1 h2
      refine ⟨cap, β', _, hroom, hcm, ?_, fun j hj => h1 j hj, by simp, h3, Same.setRow _ _ _, by simp [FV.wf, TV.wf, SV.wf], ?_⟩
      · rw [hden, hr]
        simp only [hcells]
        simp [FV.den, TV.den, SV.den, h2, hnil, ho]
      · intro l d hd g hg
        rcases append_get hd with ⟨hl', hd'⟩ | ⟨rfl, rfl⟩
        · rw [h1 l (by simpa using hl')] at hg; exact hF' l d hd' g hg
        · have hll : (σ.set i .dead).length = σ.length := by simp
          rw [hll, h2] at hg
          exact hF i _ hc g hg

end Go.Sx

namespace Go.Sx
open Go

/-- xs with vs from place off on. -/
def setV (xs : List Value) (off : Nat) (vs : List Value) : List Value := xs.take off ++ vs ++ xs.drop (off + vs.length)
theorem setV_length {xs : List Value} {off : Nat} {vs : List Value} (h : off + vs.length ≤ xs.length) : (setV xs off vs).length = xs.length := by
  simp [setV]; omega
theorem setV_append {xs sp : List Value} {off : Nat} {vs : List Value} (h : off + vs.length ≤ xs.length) : setV (xs ++ sp) off vs = setV xs off vs ++ sp := by
  unfold setV
  rw [List.take_append_of_le_length (by omega), List.drop_append_of_le_length h]
  simp

/-- A chunk that may be written, with other cells. -/
def Ch.write? : Ch → List Value → Option Ch
  | .arr e _, ys => some (.arr e ys)
  | .own e sz cap _, ys => some (.own e sz cap ys)
  | _, _ => none

theorem eff_write {P : Program} {β : Nat → Bd} {σ : List Ch} {φ : Heap} {w : World} (hm : Sat β σ φ w) {i : Nat} {c c' : Ch} {xs vs : List Value} {off : Nat} (hc : σ[i]? = some c) (hxs : c.cells? = some xs)
    (hw : c.write? (setV xs off vs) = some c') (hle : off + vs.length ≤ xs.length) (h1 : ∀ v ∈ vs, v.oneCell' = true) (hne : vs ≠ []) :
    (β i).nil = false ∧ ∃ w', (storeCells ⟨(β i).g, (β i).o + off, none⟩ vs).run P w = .ok () w' ∧ Sat β (σ.set i c') φ w' ∧ Same w w' := by
  have hpos : off < xs.length := by
    have := List.length_pos_iff.2 hne
    omega
  cases c with
  | arr e ys =>
    simp [Ch.cells?] at hxs; subst hxs
    simp [Ch.write?] at hw; subst hw
    obtain ⟨⟨ho, hnil⟩, hcell⟩ := hm.sat i _ hc
    refine ⟨hnil, ?_⟩
    have hst := run_storeCells_at P (β i).g off e vs 0 ys.toArray w hcell (by simpa using hle) h1
    refine ⟨_, by simpa [ho] using hst, ?_, Same.setRow _ _ _⟩
    refine hm.change hc rfl (fun _ hg => hg) trivial ⟨⟨ho, hnil⟩, ?_⟩ (fun g hg => setRow_other w (β i).g g _ (by simpa [Ch.foot] using hg))
    have := setRow_heap w (β i).g _ ((setV ys off vs).toArray) e (0, 0) hcell
    simpa [setV, Nat.add_comm] using this
  | own e sz cap ys =>
    simp [Ch.cells?] at hxs; subst hxs
    simp [Ch.write?] at hw; subst hw
    rcases hm.sat i _ hc with ⟨_, h0, _⟩ | ⟨⟨hnil, ho, hcm⟩, sp, hl, hcell⟩
    · rw [h0] at hpos; simp at hpos
    · refine ⟨hnil, ?_⟩
      have hst := run_storeCells_at P (β i).g off e vs 0 (ys ++ sp).toArray w hcell (by simp; omega) h1
      refine ⟨_, by simpa [ho] using hst, ?_, Same.setRow _ _ _⟩
      refine hm.change hc rfl (fun _ hg => hg) trivial (.inr ⟨⟨hnil, ho, hcm⟩, sp, ?_, ?_⟩) (fun g hg => setRow_other w (β i).g g _ (by simpa [Ch.foot, hnil] using hg))
      · rw [List.length_append, setV_length hle, ← List.length_append]; exact hl
      · have := setRow_heap w (β i).g _ ((setV (ys ++ sp) off vs).toArray) e (0, 0) hcell
        rw [setV_append hle] at this
        rw [← this, ← setV_append hle]
        simp [setV]
  | blk _ _ => simp [Ch.cells?] at hxs
  | deep _ => simp [Ch.cells?] at hxs
  | view _ => simp [Ch.write?] at hw
  | dead => simp [Ch.cells?] at hxs
  | mp _ => simp [Ch.cells?] at hxs

/-! ### Slicing -/
/-- A bound of a slice expression: as the operand says, or d where there is none. -/
def boundP (fr : Fr) (d : Nat) (l : Nat) : Option Operand → Option Prop
  | none => some (l = d)
  | some x => match opd fr none x with
    | some (.s (.int _ n)) => some (n = (l : Int))
    | _ => none

theorem boundP_low {P : Program} {w : World} {β : Nat → Bd} {fr : Fr} {a : Act} (hk : Knows β fr a) {l h : Nat} {x : Option Operand} {p : Prop} (hp : boundP fr 0 l x = some p) (q : p) (hle : l ≤ h) (code : BoundsCode) :
    (match x.map a.eval with | some v => Instr.sliceBound v h code | none => (pure 0 : Sem Nat)).run P w = .ok l w := by
  cases x with
  | none => simp only [boundP, Option.some.injEq] at hp; subst hp; subst q; rfl
  | some x =>
    simp only [boundP] at hp
    split at hp
    · rename_i k n hx
      cases hp
      subst q
      simp [opd_sound (g := none) hk trivial hx, TV.den, SV.den, Instr.sliceBound, asIntOf, hle]
    · cases hp

theorem boundP_high {P : Program} {w : World} {β : Nat → Bd} {fr : Fr} {a : Act} (hk : Knows β fr a) {len h cap : Nat} {x : Option Operand} {p : Prop} (hp : boundP fr len h x = some p) (q : p) (hle : h ≤ cap) (code : BoundsCode) :
    (match x.map a.eval with | some v => Instr.sliceBound v cap code | none => (pure len : Sem Nat)).run P w = .ok h w := by
  cases x with
  | none => simp only [boundP, Option.some.injEq] at hp; subst hp; subst q; rfl
  | some x =>
    simp only [boundP] at hp
    split at hp
    · rename_i k n hx
      cases hp
      subst q
      simp [opd_sound (g := none) hk trivial hx, TV.den, SV.den, Instr.sliceBound, asIntOf, hle]
    · cases hp

theorem slice_run {P : Program} {w : World} {β : Nat → Bd} {fr : Fr} {a : Act} (hk : Knows β fr a) {t e : TypeId} {ie : TypeInfo} (hu : P.underlying t = some (.slice e)) (hi : P.info? e = some ie)
    {base : Option Addr} {len cap l h : Nat} {lo hi' : Option Operand} {p q : Prop} (hlo : boundP fr 0 l lo = some p) (hhi : boundP fr len h hi' = some q) (hp : p) (hq : q) (hlh : l ≤ h) (hhc : h ≤ cap) :
    (Instr.sliceAt t (.slice base len cap) (lo.map a.eval) (hi'.map a.eval) none).run P w = .ok (.slice (if cap = l then base else base.map (·.add (l * ie.size))) (h - l) (cap - l)) w := by
  have h1 := boundP_low (P := P) (w := w) hk hlo hp hlh .sliceB
  have h2 := boundP_high (P := P) (w := w) hk hhi hq hhc .sliceAcap
  unfold Instr.sliceAt
  simp only [Sem.run_bind, run_underlying hu, Result.andThen_ok]
  unfold Instr.slice
  simp only [Sem.run_bind, run_underlying hu, Result.andThen_ok]
  unfold Instr.sliceBounds
  cases lo <;> cases hi' <;> simp only [Option.map_none, Option.map_some] at h1 h2 ⊢ <;>
    simp_all [sizeOf_of hi]

/-! ### The dispatch -/
/-- What is appended: how many, which cells, and what one owes. -/
def srcOf (σ : List Ch) (i sz : Nat) : TV → Option (Nat × List Value × Prop)
  | .s (.sl k off m _) => match Nat.beq k i with
    | true => none
    | false => match σ[k]? with
      | some c => match c.cells? with
        | some ys => some (m, seg ys off (m * sz), off + m * sz ≤ ys.length)
        | none => none
      | none => none
  | .s (.raw (.slice none 0 _)) => some (0, [], True)
  | .s (.str l) => match sz with
    | 1 => some (l.length, bytesV l, True)
    | _ => none
  | _ => none

/-- One operand twice (or two constants). -/
def sameOp : Operand → Operand → Bool
  | .tmp a, .tmp b => Nat.beq a b
  | .const _, .const _ => true
  | _, _ => false

/-- Is the type of the source one that append takes. -/
def srcTy (tt : TT) (t : Nat) : TV → Bool
  | .s (.str _) => match tlook t tt with
    | some ti => match ti.kd with
      | .str => true
      | _ => false
    | none => false
  | _ => match tlook t tt with
    | some ti => match ti.kd with
      | .slice _ _ _ => true
      | _ => false
    | none => false

theorem bytesV_eq (l : List UInt8) : byteCells ⟨l.toArray⟩ = bytesV l := rfl

theorem srcOf_src {P : Program} {tt : TT} (htt : TTok P tt) {β : Nat → Bd} {σ : List Ch} {φ : Heap} {w : World} (hm : Sat β σ φ w) {i sz t m : Nat} {y : TV} {news : List Value} {p : Prop}
    (h : srcOf σ i sz y = some (m, news, p)) (ht : srcTy tt t y = true) (hp : p) (h1 : ∀ u ∈ news, u.oneCell' = true) : Src P sz t (y.den β) m news w := by
  unfold srcOf at h
  split at h
  · rename_i k off m' cap
    split at h
    · cases h
    · split at h
      · rename_i c hc
        split at h
        · rename_i ys hys
          cases h
          simp only [srcTy] at ht
          split at ht
          · rename_i ti hti
            split at ht
            · rename_i e sz' by_ hkd
              obtain ⟨ie, hu, _⟩ := kd_slice ((tlook_ok htt hti).kd.trans hkd)
              have hat := Ch.cells_at (hm.sat k c hc) hys
              rw [den_sl]
              cases hn : (β k).nil with
              | true =>
                have hys0 : ys = [] := by
                  cases ys with
                  | nil => rfl
                  | cons v ys => have := (hat 0 v rfl).1; rw [hn] at this; cases this
                subst hys0
                simp at hp
                have hz : seg [] off (m * sz) = [] := by simp [seg]
                rw [hz]
                rcases Nat.eq_zero_or_pos m with rfl | hmp
                · exact Src.ofNil w hu cap
                · refine ⟨.inl ⟨e, hu⟩, fun _ => rfl, ?_, ?_, by simp; omega, fun _ h => by cases h⟩
                  · exact run_firstCells_none w sz m m cap
                  · exact run_firstCells_none w.drew sz m m cap
              | false =>
                refine Src.ofSlice w hu _ m cap _ (seg_length hp) (fun j u hj => ?_) h1
                obtain ⟨h2, _⟩ := seg_get hj
                rw [addr_add, Nat.add_assoc]
                exact (hat _ u h2).2
            · cases ht
          · cases ht
        · cases h
      · cases h
  · rename_i cap
    cases h
    simp only [srcTy] at ht
    split at ht
    · rename_i ti hti
      split at ht
      · rename_i e sz' by_ hkd
        obtain ⟨ie, hu, _⟩ := kd_slice ((tlook_ok htt hti).kd.trans hkd)
        exact Src.ofNil w hu cap
      · cases ht
    · cases ht
  · rename_i l
    split at h
    · cases h
      simp only [srcTy] at ht
      split at ht
      · rename_i ti hti
        split at ht
        · rename_i hkd
          have hu := kd_str ((tlook_ok htt hti).kd.trans hkd)
          have := Src.ofString (P := P) w hu ⟨l.toArray⟩
          rw [bytesV_eq] at this
          have e : (ByteArray.mk l.toArray).size = l.length := by show l.toArray.size = _; simp
          rw [e] at this
          exact this
        · cases ht
      · cases ht
    · cases h
  · cases h

def evF (tt : TT) (fr : Fr) (σ : List Ch) (op : Op) (k : FV → List Ch → Prop) : Option Prop :=
  match op with
  | .buildSlice t len parts => match tlook t tt with
    | some ti => match ti.kd with
      | .slice e sz _ => match tlook e tt, bsCells fr 0 parts.toList with
        | some te, some r => match Nat.beq r.length len, sameLen sz r, Nat.beq te.zv.cells.size sz, Nat.ble 1 sz, Nat.ble (len * sz) 16777216 with
          | true, true, true, true, true => some (forceL (joinL r) fun l => lenK σ fun j => forceL (σ ++ [.own e sz len (l.map SV.cv)]) fun σ' => k (.t (.s (.sl j 0 len len))) σ')
          | _, _, _, _, _ => none
        | _, _ => none
      | _ => none
    | none => none
  | .slice t x lo hi none => match opd fr none x with
    | some (.s (.sl i off len cap)) => match tlook t tt, σ[i]? with
      | some ti, some c => match ti.kd, c with
        | .slice _ sz _, .view xs => some (∃ l h : Nat, (∃ p q, boundP fr 0 l lo = some p ∧ boundP fr len h hi = some q ∧ p ∧ q) ∧ (l ≤ h ∧ h ≤ cap) ∧
            lenK σ fun j => forceL (σ ++ [.view (seg xs (off + l * sz) ((h - l) * sz))]) fun σ' => k (.t (.s (.sl j 0 (h - l) (cap - l)))) σ')
        | .slice _ sz _, c => match c.cells? with
          | some _ => some (∃ l h : Nat, (∃ p q, boundP fr 0 l lo = some p ∧ boundP fr len h hi = some q ∧ p ∧ q) ∧ (l ≤ h ∧ h ≤ cap) ∧
              ∀ off', (cap ≠ l → off' = off + l * sz) → k (.t (.s (.sl i off' (h - l) (cap - l)))) σ)
          | none => none
        | _, _ => none
      | _, _ => none
    | _ => none
  | .makeSlice t x y => match opd fr none x, opd fr none y with
    | some (.s (.int _ n)), some (.s (.int _ c)) => match tlook t tt with
      | some ti => match ti.kd with
        | .slice e sz by_ => match tlook e tt with
          | some te => match te.zv.oneCell', Nat.beq sz 1 with
            | true, true => bif sameOp x y then some (∃ m : Nat, (n = (m : Int) ∧ c = (m : Int) ∧ m ≤ maxLen ∧ by_ * m ≤ 281474976710656) ∧
                lenK σ fun j => forceL (σ ++ [.own e sz m (List.replicate m te.zv)]) fun σ' => k (.t (.s (.sl j 0 m m))) σ')
              else some (∃ m c' : Nat, (n = (m : Int) ∧ c = (c' : Int) ∧ m ≤ c' ∧ c' ≤ maxLen ∧ by_ * c' ≤ 281474976710656) ∧
                lenK σ fun j => forceL (σ ++ [.own e sz c' (List.replicate m te.zv)]) fun σ' => k (.t (.s (.sl j 0 m c'))) σ')
            | _, _ => none
          | none => none
        | _ => none
      | none => none
    | _, _ => none
  | .call c => match c.callee with
    | .builtin .append => match c.args.toList, c.argTypes.toList with
      | [x, y], [t1, t2] => match opd fr none x, opd fr none y, tlook t1 tt with
        | some u, some v, some ti => match ti.kd with
          | .slice e sz by_ => match tlook e tt, srcTy tt t2 v with
            | some te, true => match Nat.beq te.zv.cells.size sz, Nat.ble 1 sz with
              | true, true => match u with
                | .s (.sl i off n cap) => match σ[i]?, srcOf σ i sz v with
                  | some (.own e' sz' cap' xs), some (m, news, p) => match Nat.beq e e', Nat.beq sz sz', Nat.beq off 0 with
                    | true, true, true => some ((cap = cap' ∧ xs.length = n * sz ∧ p ∧ (∀ u ∈ news, u.oneCell' = true) ∧ n + m ≤ maxLen ∧ (n + m) * by_ ≤ 140737488355328) ∧
                        ∀ c', n + m ≤ c' → c' ≤ maxLen → lenK σ fun j => forceL (σ.set i .dead ++ [.own e sz c' (xs ++ news)]) fun σ' => k (.t (.s (.sl j 0 (n + m) c'))) σ')
                    | _, _, _ => none
                  | _, _ => none
                | .s (.raw (.slice none 0 0)) => match srcOf σ σ.length sz v with
                  | some (m, news, p) => some ((p ∧ (∀ u ∈ news, u.oneCell' = true) ∧ m ≤ maxLen ∧ m * by_ ≤ 140737488355328) ∧
                        ∀ c', m ≤ c' → c' ≤ maxLen → lenK (σ ++ [.dead]) fun j => forceL ((σ ++ [.dead]) ++ [.own e sz c' news]) fun σ' => k (.t (.s (.sl j 0 m c'))) σ')
                  | none => none
                | _ => none
              | _, _ => none
            | _, _ => none
          | _ => none
        | _, _, _ => none
      | _, _ => none
    | .builtin .copy => match c.args.toList, c.argTypes.toList with
      | [x, y], [t1, _] => match opd fr none x, opd fr none y, tlook t1 tt with
        | some (.s (.sl i off n _)), some (.s (.sl i2 off2 n2 _)), some ti => match ti.kd, σ[i]?, σ[i2]? with
          | .slice _ sz _, some ci, some c2 => match ci.cells?, c2.cells?, Nat.beq sz 1 with
            | some xs, some ys, true => match ci.write? xs with
              | some _ => some (∃ m : Nat, (m = min n2 n ∧ off + m ≤ xs.length ∧ off2 + m ≤ ys.length ∧ ∀ u ∈ seg ys off2 m, u.oneCell' = true) ∧
                  match ci.write? (setV xs off (seg ys off2 m)) with
                  | some c' => forceL (σ.set i c') fun σ' => k (.t (.s (.int .i64 (m : Int)))) σ'
                  | none => False)
              | none => none
            | _, _, _ => none
          | _, _, _ => none
        | some (.s (.raw (.slice none 0 0))), some (.s (.sl _ _ _ _)), some ti => match ti.kd with
          | .slice _ sz _ => match Nat.beq sz 1 with
            | true => some (k (.t (.s (.int .i64 0))) σ)
            | false => none
          | _ => none
        | some (.s (.sl _ _ _ _)), some (.s (.raw (.slice none 0 0))), some ti => match ti.kd with
          | .slice _ sz _ => match Nat.beq sz 1 with
            | true => some (k (.t (.s (.int .i64 0))) σ)
            | false => none
          | _ => none
        | _, _, _ => none
      | _, _ => none
    | _ => none
  | _ => none

end Go.Sx

namespace Go.Sx
open Go

theorem eff_same {P : Program} {F : Nat → Prop} {β : Nat → Bd} {σ : List Ch} {φ : Heap} {w : World} (hm : Sat β σ φ w) (hF : ∀ (l : Nat) (d : Ch), σ[l]? = some d → ∀ g, g ∈ d.rfoot (β l) → F g ∨ w.heap.size ≤ g)
    {v : FV} (hv : v.wf σ.length) : Eff P F β σ φ w v β σ w := ⟨fun _ _ => rfl, Nat.le_refl _, hm, Same.refl w, hv, hF⟩

/-- A view of a part of a view. -/
theorem eff_view {P : Program} {F : Nat → Prop} {β : Nat → Bd} {σ : List Ch} {φ : Heap} {w : World} (hm : Sat β σ φ w) (hF : ∀ (l : Nat) (d : Ch), σ[l]? = some d → ∀ g, g ∈ d.rfoot (β l) → F g ∨ w.heap.size ≤ g)
    {i : Nat} {xs : List Value} (hc : σ[i]? = some (.view xs)) (n cap off n' o : Nat) (ho : n' ≠ 0 → o = (β i).o + off) :
    ∃ β', Eff P F β σ φ w (.t (.s (.sl σ.length 0 n cap))) β' (σ ++ [.view (seg xs off n')]) w ∧ β' σ.length = ⟨(β i).g, o, (β i).nil⟩ := by
  have hsat : ∀ (j : Nat) (v : Value), (seg xs off n')[j]? = some v → (β i).nil = false ∧ w.cell? ⟨(β i).g, o + j, none⟩ = some v := by
    intro j v hv
    obtain ⟨h1, h2⟩ := seg_get hv
    have := hm.sat i _ hc _ v h1
    rw [ho (by omega), Nat.add_assoc]; exact this
  have hne : ∀ g, g ∈ (Ch.view (seg xs off n')).rfoot ⟨(β i).g, o, (β i).nil⟩ → g ∈ (Ch.view xs).rfoot (β i) := by
    intro g hg
    cases hs : seg xs off n' with
    | nil => rw [hs] at hg; simp [Ch.rfoot, Ch.foot] at hg
    | cons v r =>
      rw [hs] at hg
      simp [Ch.rfoot] at hg; subst hg
      obtain ⟨h1, _⟩ := seg_get (xs := xs) (off := off) (n := n') (j := 0) (v := v) (by rw [hs]; rfl)
      cases xs with
      | nil => simp at h1
      | cons x xs => simp [Ch.rfoot]
  obtain ⟨β', h1, h2, h3⟩ := hm.push (w' := w) (.view (seg xs off n')) ⟨(β i).g, o, (β i).nil⟩ (fun _ _ _ => rfl) (fun g hg => by simp [Ch.foot] at hg)
    (fun g hg => .inr fun j d hd hg' => by
      by_cases hij : j = i
      · subst hij; rw [hc] at hd; cases hd; simp [Ch.foot] at hg'
      · exact hm.disj j i d _ hd hc hij g hg' (hne g hg)) trivial (fun β' _ _ => hsat)
  refine ⟨β', ⟨h1, by simp, h3, Same.refl w, by simp [FV.wf, TV.wf, SV.wf], ?_⟩, h2⟩
  intro l d hd g hg
  rcases append_get hd with ⟨hl', hd'⟩ | ⟨rfl, rfl⟩
  · rw [h1 l hl'] at hg; exact hF l d hd' g hg
  · rw [h2] at hg; exact hF i _ hc g (hne g hg)

/-- A nil slice, owned. -/
theorem push_nil {β : Nat → Bd} {σ : List Ch} {φ : Heap} {w : World} (hm : Sat β σ φ w) (e sz : Nat) :
    ∃ β', (∀ i, i < σ.length → β' i = β i) ∧ β' σ.length = ⟨0, 0, true⟩ ∧ Sat β' (σ ++ [.own e sz 0 []]) φ w :=
  hm.push (w' := w) (.own e sz 0 []) ⟨0, 0, true⟩ (fun _ _ _ => rfl) (fun g hg => by simp [Ch.foot] at hg) (fun g hg => by simp [Ch.rfoot, Ch.foot] at hg) trivial (fun _ _ _ => .inl ⟨rfl, rfl, rfl⟩)

theorem run_copy_with {P : Program} (w w' : World) (dT sT ty elem : TypeId) (b o dLen dCap : Nat) (a : Addr) (sLen sCap : Nat) (cs : List Value)
    (hu : P.underlying dT = some (.slice elem)) (hs : (P.info? elem).map (·.size) = some 1) (hn : cs.length = Nat.min sLen dLen)
    (hsrc : ∀ j v, cs[j]? = some v → w.cell? (a.add j) = some v) (hst : (storeCells ⟨b, o, none⟩ cs).run P w = .ok () w') :
    (Builtin.copy_ #[dT, sT] ty #[.slice (some ⟨b, o, none⟩) dLen dCap, .slice (some a) sLen sCap]).run P w = .ok (goInt cs.length) w' := by
  have hl := run_loadCells_list (P := P) w a cs hsrc
  cases hq : P.info? elem with
  | none => simp [hq] at hs
  | some i =>
    have hi : i.size = 1 := by simpa [hq] using hs
    simp [Builtin.copy_, run_underlying hu, Builtin.lenOf, Builtin.firstCells, sizeOf, typeInfo, hq, hi, ← hn, hl, hst]

theorem evF_sound {P : Program} {tt : TT} (htt : TTok P tt) {F : Nat → Prop} {β : Nat → Bd} {fr : Fr} {σ : List Ch} {φ : Heap} {a : Act} {w : World} (hk : Knows β fr a)
    (hw : ∀ e ∈ fr, e.2.1.wf σ.length) (hm : Sat β σ φ w) (hF : ∀ (l : Nat) (d : Ch), σ[l]? = some d → ∀ g, g ∈ d.rfoot (β l) → F g ∨ w.heap.size ≤ g)
    {o : Oper} {k : FV → List Ch → Prop} {R : Prop} (h : evF tt fr σ o.op k = some R) (hR : R) :
    ∃ v σ' β' w', k v σ' ∧ (execOp a.eval o).run P w = .ok (.value (v.den β')) w' ∧ Eff P F β σ φ w v β' σ' w' := by
  unfold evF at h
  split at h
  · -- a slice literal
    rename_i t len parts hop
    split at h
    · rename_i ti hti
      split at h
      · rename_i e sz by_ hkd
        split at h
        · rename_i te r hte hr
          split at h
          · rename_i h1 h2 h3 h4 h5
            cases h
            rw [forceL_eq, lenK_eq, forceL_eq] at hR
            have e1 := Nat.eq_of_beq_eq_true h1
            have e4 := Nat.le_of_ble_eq_true h4
            have e5 := Nat.le_of_ble_eq_true h5
            have hb := bsCells_sound (β := β) hk hw hr
            have hrl : r.length = parts.toList.length := by have := congrArg List.length hb.2; simpa using this.symm
            have hjl := joinL_length (sameLen_spec h2)
            have hrun := build_run htt hti hkd hte (parts := parts.toList.map fun p => (p.1, a.eval p.2)) (r := r) (len := len)
              (by rw [List.map_map, List.length_map]; exact hb.1) (by rw [List.map_map]; exact hb.2) (by simpa [e1] using hrl.symm) (sameLen_spec h2) (by omega) e5 w
            obtain ⟨β', he, hβ⟩ := eff_new (P := P) hm hF e sz len len ((joinL r).map SV.cv) [] (by simp [hjl, e1]) (by simp [maxLen]; exact Nat.le_trans (Nat.le_trans (Nat.le_mul_of_pos_right len (by omega)) e5) (by decide)) w (.inl rfl)
            refine ⟨_, _, β', _, hR, ?_, he⟩
            unfold execOp
            rw [hop]
            have hp : (parts.map fun p => (p.1, a.eval p.2)) = (parts.toList.map fun p => (p.1, a.eval p.2)).toArray := by apply Array.ext'; simp
            simp only [hp, Sem.run_bind]
            rw [hrun]
            simp [FV.den, TV.den, SV.den, hβ]
          · cases h
        · cases h
      · cases h
    · cases h
  · -- slicing
    rename_i t x lo hi hop
    split at h
    · rename_i i off len cap hx
      split at h
      · rename_i ti c hti hc
        split at h
        · rename_i e sz by_ xs hkd
          cases h
          obtain ⟨l, h', ⟨p, q, hp, hq, hp', hq'⟩, ⟨hlh, hhc⟩, hkk⟩ := hR
          rw [lenK_eq, forceL_eq] at hkk
          obtain ⟨ie, hu, hi', hsz, _⟩ := kd_slice ((tlook_ok htt hti).kd.trans hkd)
          have hr := slice_run (P := P) (w := w) hk hu hi' (base := cond (β i).nil none (some ⟨(β i).g, (β i).o + off, none⟩)) (cap := cap) hp hq hp' hq' hlh hhc
          obtain ⟨β', he, hβ⟩ := eff_view (P := P) hm hF hc (h' - l) (cap - l) (off + l * sz) ((h' - l) * sz) (if cap = l then (β i).o + off else (β i).o + (off + l * sz)) (fun hne => by
            have : ¬ cap = l := fun e => by
              have : h' - l = 0 := by omega
              rw [this] at hne; simp at hne
            rw [if_neg this])
          refine ⟨_, _, β', _, hkk, ?_, he⟩
          unfold execOp
          rw [hop]
          simp only [opd_sound (g := none) hk trivial hx, den_sl, Option.map_none, Sem.run_bind]
          rw [hr]
          simp only [Result.andThen_ok, Sem.run_pure, FV.den, den_sl, hβ, hsz, Nat.add_zero]
          congr 3
          cases (β i).nil <;> by_cases hcl : cap = l <;> simp [hcl, addr_add, Nat.add_assoc]
        · rename_i c' e sz by_ hkd hnv
          split at h
          · rename_i ys hys
            cases h
            obtain ⟨l, h', ⟨p, q, hp, hq, hp', hq'⟩, ⟨hlh, hhc⟩, hkk⟩ := hR
            obtain ⟨ie, hu, hi', hsz, _⟩ := kd_slice ((tlook_ok htt hti).kd.trans hkd)
            have hr := slice_run (P := P) (w := w) hk hu hi' (base := cond (β i).nil none (some ⟨(β i).g, (β i).o + off, none⟩)) (cap := cap) hp hq hp' hq' hlh hhc
            have hkk' := hkk (if cap = l then off else off + l * sz) (fun hne => by rw [if_neg hne])
            have hwx := opd_wf hw hx
            refine ⟨_, _, β, _, hkk', ?_, eff_same hm hF hwx⟩
            unfold execOp
            rw [hop]
            simp only [opd_sound (g := none) hk trivial hx, den_sl, Option.map_none, Sem.run_bind]
            rw [hr]
            simp only [Result.andThen_ok, Sem.run_pure, FV.den, den_sl, hsz]
            congr 3
            cases (β i).nil <;> by_cases hcl : cap = l <;> simp [hcl, addr_add, Nat.add_assoc]
          · cases h
        · cases h
      · cases h
    · cases h
  · -- make
    rename_i t x y hop
    split at h
    · rename_i k1 n k2 c hx hy
      split at h
      · rename_i ti hti
        split at h
        · rename_i e sz by_ hkd
          split at h
          · rename_i te hte
            split at h
            · rename_i h1 h2
              cases hsm : sameOp x y <;> rw [hsm] at h
              rotate_left
              · cases h
                obtain ⟨m, ⟨rfl, rfl, hmax, hby⟩, hkk⟩ := hR
                rw [lenK_eq, forceL_eq] at hkk
                have e2 := Nat.eq_of_beq_eq_true h2
                subst e2
                obtain ⟨ie, hu, hi, hsz, hbb⟩ := kd_slice ((tlook_ok htt hti).kd.trans hkd)
                obtain ⟨ie', hi', hs', hzz⟩ := info_of (tlook_ok htt hte)
                rw [hi] at hi'; cases hi'
                have hb' : (ie.bytes : Int) * (m : Int) ≤ 281474976710656 := by
                  rw [hbb]
                  have h : ((by_ * m : Nat) : Int) ≤ 281474976710656 := by omega
                  rwa [Int.natCast_mul] at h
                have hr := run_make (P := P) w t e ie te.zv hu hi hzz k1 k2 m m (by omega) (Int.le_refl _) hb' (by simp only [maxLen] at hmax; omega)
                simp only [Int.toNat_natCast, hsz, Nat.mul_one] at hr
                have hz1 : te.zv.cells = #[te.zv] := cells_one h1
                rw [hz1] at hr
                have hcl : (madeCells #[te.zv] m) = (List.replicate m te.zv ++ []).toArray := by apply Array.ext'; simp [toList_madeCells_one]
                rw [hcl] at hr
                obtain ⟨β', he, hβ⟩ := eff_new (P := P) hm hF e 1 m m (List.replicate m te.zv) [] (by simp) hmax w (.inl rfl)
                refine ⟨_, _, β', _, hkk, ?_, he⟩
                unfold execOp
                rw [hop]
                have ex := opd_sound (g := none) hk trivial hx
                have ey := opd_sound (g := none) hk trivial hy
                simp only [TV.den, SV.den] at ex ey
                simp only [ex, ey, Sem.run_bind]
                rw [hr]
                simp [FV.den, TV.den, SV.den, hβ]
              · cases h
                obtain ⟨m, c', ⟨rfl, rfl, hmc, hmax, hby⟩, hkk⟩ := hR
                rw [lenK_eq, forceL_eq] at hkk
                have e2 := Nat.eq_of_beq_eq_true h2
                subst e2
                obtain ⟨ie, hu, hi, hsz, hbb⟩ := kd_slice ((tlook_ok htt hti).kd.trans hkd)
                obtain ⟨ie', hi', hs', hzz⟩ := info_of (tlook_ok htt hte)
                rw [hi] at hi'; cases hi'
                have hb' : (ie.bytes : Int) * (c' : Int) ≤ 281474976710656 := by
                  rw [hbb]
                  have h : ((by_ * c' : Nat) : Int) ≤ 281474976710656 := by omega
                  rwa [Int.natCast_mul] at h
                have hr := run_make (P := P) w t e ie te.zv hu hi hzz k1 k2 m c' (by omega) (by omega) hb' (by simp only [maxLen] at hmax; omega)
                simp only [Int.toNat_natCast, hsz, Nat.mul_one] at hr
                have hz1 : te.zv.cells = #[te.zv] := cells_one h1
                rw [hz1] at hr
                have hcl : (madeCells #[te.zv] c') = (List.replicate m te.zv ++ List.replicate (c' - m) te.zv).toArray := by apply Array.ext'; rw [List.replicate_append_replicate, Nat.add_sub_cancel' hmc]; simp [toList_madeCells_one]
                rw [hcl] at hr
                obtain ⟨β', he, hβ⟩ := eff_new (P := P) hm hF e 1 c' m (List.replicate m te.zv) (List.replicate (c' - m) te.zv) (by simp; omega) hmax w (.inl rfl)
                refine ⟨_, _, β', _, hkk, ?_, he⟩
                unfold execOp
                rw [hop]
                have ex := opd_sound (g := none) hk trivial hx
                have ey := opd_sound (g := none) hk trivial hy
                simp only [TV.den, SV.den] at ex ey
                simp only [ex, ey, Sem.run_bind]
                rw [hr]
                simp [FV.den, TV.den, SV.den, hβ]
            · cases h
          · cases h
        · cases h
      · cases h
    · cases h
  · -- append
    rename_i c hop
    split at h
    · rename_i hcal
      split at h
      · rename_i x y t1 t2 hxs hts
        split at h
        · rename_i u v ti hx hy hti
          split at h
          · rename_i e sz by_ hkd
            split at h
            · rename_i te hte hsty
              split at h
              · rename_i hz1 hz2
                have ez := Nat.eq_of_beq_eq_true hz1
                have ep := Nat.le_of_ble_eq_true hz2
                obtain ⟨ie, hu, hi, hsz, hbb⟩ := kd_slice ((tlook_ok htt hti).kd.trans hkd)
                obtain ⟨ie', hi', hs', hzz⟩ := info_of (tlook_ok htt hte)
                rw [hi] at hi'; cases hi'
                subst hsz
                subst hbb
                have ha : c.args = #[x, y] := by apply Array.ext'; simpa using hxs
                have ht : c.argTypes = #[t1, t2] := by apply Array.ext'; simpa using hts
                have hvx := opd_sound (g := none) hk trivial hx
                have hvy := opd_sound (g := none) hk trivial hy
                have exec : ∀ (vv : Value) (w' : World), (Builtin.append_ #[t1, t2] o.type #[a.eval x, a.eval y]).run P w = .ok vv w' → (execOp a.eval o).run P w = .ok (.value vv) w' := by
                  intro vv w' hrr
                  unfold execOp
                  rw [hop]
                  simp [resolve, hcal, ha, ht, invoke, builtin, hrr]
                split at h
                · rename_i i off n cap
                  split at h
                  · rename_i e' sz' cap' xs m news p hc hsrc
                    split at h
                    · rename_i b1 b2 b3
                      cases h
                      have := Nat.eq_of_beq_eq_true b1; subst this
                      have := Nat.eq_of_beq_eq_true b2; subst this
                      have := Nat.eq_of_beq_eq_true b3; subst this
                      obtain ⟨⟨rfl, hn, hp, h1, h63, hb⟩, hkk⟩ := hR
                      have hS := srcOf_src htt hm hsrc hsty hp h1
                      obtain ⟨c', β', w', g1, g2, g3, g4⟩ := eff_append (P := P) (F := F) hm hF t1 t2 o.type e ie te.zv hu hi hzz ez hc hn _ m news hS h63 hb ep
                      have hk2 := hkk c' g1 g2
                      rw [lenK_eq, forceL_eq] at hk2
                      refine ⟨_, _, β', w', hk2, exec _ _ ?_, g4⟩
                      rw [hvx, hvy]; exact g3
                    · cases h
                  · cases h
                · split at h
                  · rename_i m news p hsrc
                    cases h
                    obtain ⟨⟨hp, h1, h63, hb⟩, hkk⟩ := hR
                    have hS := srcOf_src htt hm hsrc hsty hp h1
                    obtain ⟨β1, p1, p2, p3⟩ := push_nil hm e ie.size
                    have hF1 : ∀ (l : Nat) (d : Ch), (σ ++ [.own e ie.size 0 []])[l]? = some d → ∀ g, g ∈ d.rfoot (β1 l) → F g ∨ w.heap.size ≤ g := by
                      intro l d hd g hg
                      rcases append_get hd with ⟨hl', hd'⟩ | ⟨rfl, rfl⟩
                      · rw [p1 l hl'] at hg; exact hF l d hd' g hg
                      · simp [Ch.rfoot, Ch.foot, p2] at hg
                    obtain ⟨c', β', w', g1, g2, g3, g4⟩ := eff_append (P := P) (F := F) p3 hF1 t1 t2 o.type e ie te.zv hu hi hzz ez (i := σ.length) (cap := 0) (n := 0) (xs := []) (by simp) (by simp) _ m news hS (by simpa using h63) (by simpa using hb) ep
                    simp only [Nat.zero_add] at g1
                    have hk2 := hkk c' g1 g2
                    rw [lenK_eq, forceL_eq] at hk2
                    have hset : (σ ++ [Ch.own e ie.size 0 []]).set σ.length .dead = σ ++ [.dead] := by simp
                    simp only [hset, List.nil_append, Nat.zero_add] at g4
                    have hll : (σ ++ [Ch.own e ie.size 0 []]).length = (σ ++ [Ch.dead]).length := by simp
                    rw [hll] at g4
                    refine ⟨_, _, β', w', hk2, exec _ _ ?_, ?_⟩
                    · rw [hvx, hvy]
                      have e1 : TV.den β1 (.s (.sl σ.length 0 0 0)) = TV.den β (.s (.raw (.slice none 0 0))) := by simp [TV.den, SV.den, p2]
                      rw [e1] at g3
                      simp only [Nat.zero_add, hll] at g3
                      exact g3
                    · refine ⟨fun j hj => (g4.ext j (by simp; try omega)).trans (p1 j hj), by simp, g4.sat, g4.same, g4.wf, g4.src⟩
                  · cases h
                · cases h
              · cases h
            · cases h
          · cases h
        · cases h
      · cases h
    · rename_i hcal
      split at h
      · rename_i x y t1 t2 hxs hts
        split at h
        · rename_i i off n cap i2 off2 n2 cap2 ti hx hy hti
          split at h
          · rename_i e sz by_ ci c2 hkd hc hc2
            split at h
            · rename_i xs ys hxc hyc hsz
              split at h
              · rename_i c0 hwr
                cases h
                obtain ⟨m, ⟨rfl, hle, hle2, h1⟩, hkk⟩ := hR
                have e2 := Nat.eq_of_beq_eq_true hsz
                subst e2
                obtain ⟨ie, hu, hi, hsz2, hbb⟩ := kd_slice ((tlook_ok htt hti).kd.trans hkd)
                have ha : c.args = #[x, y] := by apply Array.ext'; simpa using hxs
                have ht : c.argTypes = #[t1, t2] := by apply Array.ext'; simpa using hts
                have hvx := opd_sound (g := none) hk trivial hx
                have hvy := opd_sound (g := none) hk trivial hy
                have his : (P.info? e).map (·.size) = some 1 := by rw [hi]; simp [hsz2]
                have exec : ∀ (vv : Value) (w' : World), (Builtin.copy_ #[t1, t2] o.type #[a.eval x, a.eval y]).run P w = .ok vv w' → (execOp a.eval o).run P w = .ok (.value vv) w' := by
                  intro vv w' hrr
                  unfold execOp
                  rw [hop]
                  simp [resolve, hcal, ha, ht, invoke, builtin, hrr]
                have hsl : (seg ys off2 (min n2 n)).length = min n2 n := seg_length hle2
                split at hkk
                · rename_i c' hw'
                  rw [forceL_eq] at hkk
                  have hsrc : ∀ (l : Nat) (d : Ch), (σ.set i c')[l]? = some d → ∀ g, g ∈ d.rfoot (β l) → F g ∨ w.heap.size ≤ g := by
                    intro l d hd g hg
                    by_cases hil : i = l
                    · subst hil
                      have hlt := (List.getElem?_eq_some_iff.1 hc).1
                      rw [List.getElem?_set_self hlt] at hd; cases hd
                      refine hF i ci hc g ?_
                      cases ci <;> simp [Ch.write?] at hw' <;> subst hw' <;> exact hg
                    · rw [List.getElem?_set_ne hil] at hd; exact hF l d hd g hg
                  have wfv : (FV.t (.s (.int .i64 ((min n2 n : Nat) : Int)))).wf (σ.set i c').length := by simp [FV.wf, TV.wf, SV.wf]
                  cases hmz : seg ys off2 (min n2 n) with
                  | nil =>
                    have hm0 : min n2 n = 0 := by rw [hmz] at hsl; simpa using hsl.symm
                    have hset : c' = ci := by
                      rw [hmz] at hw'
                      have : setV xs off [] = xs := by simp [setV]
                      rw [this] at hw'
                      cases ci <;> simp [Ch.write?] at hw' <;> simp [Ch.cells?] at hxc <;> subst hxc <;> exact hw'.symm
                    subst hset
                    have hlt := (List.getElem?_eq_some_iff.1 hc).1
                    have hss : σ.set i c' = σ := by
                      apply List.ext_getElem?
                      intro l
                      by_cases hil : i = l
                      · subst hil; rw [List.getElem?_set_self hlt, hc]
                      · rw [List.getElem?_set_ne hil]
                    have hr := run_copy_none (P := P) w t1 t2 o.type e (cond (β i).nil none (some ⟨(β i).g, (β i).o + off, none⟩)) (cond (β i2).nil none (some ⟨(β i2).g, (β i2).o + off2, none⟩)) n cap n2 cap2 hu his hm0
                    refine ⟨_, _, β, w, hkk, exec _ _ ?_, ⟨fun _ _ => rfl, by simp, by rw [hss]; exact hm, Same.refl w, wfv, hsrc⟩⟩
                    rw [hvx, hvy, den_sl, den_sl, hr, hm0]; rfl
                  | cons v0 r0 =>
                    have hne : seg ys off2 (min n2 n) ≠ [] := by rw [hmz]; simp
                    obtain ⟨hnil, w', hst, hs, hsame⟩ := eff_write (P := P) hm hc hxc hw' (by rw [hsl]; exact hle) h1 hne
                    have hat := Ch.cells_at (hm.sat i2 c2 hc2) hyc
                    obtain ⟨g1, _⟩ := seg_get (xs := ys) (off := off2) (n := min n2 n) (j := 0) (v := v0) (by rw [hmz]; rfl)
                    have hnil2 := (hat _ _ g1).1
                    have hr := run_copy_with (P := P) w w' t1 t2 o.type e (β i).g ((β i).o + off) n cap ⟨(β i2).g, (β i2).o + off2, none⟩ n2 cap2 (seg ys off2 (min n2 n)) hu his hsl (fun j u hj => by
                      obtain ⟨h2, _⟩ := seg_get hj
                      rw [addr_add, Nat.add_assoc]
                      exact (hat _ u h2).2) hst
                    refine ⟨_, _, β, w', hkk, exec _ _ ?_, ⟨fun _ _ => rfl, by simp, hs, hsame, wfv, hsrc⟩⟩
                    rw [hvx, hvy, den_sl, den_sl, hnil, hnil2]
                    simp only [cond_false]
                    rw [hr, hsl]; rfl
                · exact hkk.elim
              · cases h
            · cases h
          · cases h
        · rename_i i2 off2 n2 cap2 ti hx hy hti
          split at h
          · rename_i e sz by_ hkd
            split at h
            · rename_i hsz
              cases h
              have e2 := Nat.eq_of_beq_eq_true hsz
              subst e2
              obtain ⟨ie, hu, hi, hsz2, hbb⟩ := kd_slice ((tlook_ok htt hti).kd.trans hkd)
              have ha : c.args = #[x, y] := by apply Array.ext'; simpa using hxs
              have ht : c.argTypes = #[t1, t2] := by apply Array.ext'; simpa using hts
              have hvx := opd_sound (g := none) hk trivial hx
              have hvy := opd_sound (g := none) hk trivial hy
              have his : (P.info? e).map (·.size) = some 1 := by rw [hi]; simp [hsz2]
              have hr := run_copy_none (P := P) w t1 t2 o.type e none (cond (β i2).nil none (some ⟨(β i2).g, (β i2).o + off2, none⟩)) 0 0 n2 cap2 hu his (by simp)
              refine ⟨_, _, β, w, hR, ?_, eff_same hm hF (by simp [FV.wf, TV.wf, SV.wf])⟩
              unfold execOp
              rw [hop]
              simp only [TV.den, SV.den] at hvx hvy
              simp only [resolve, hcal, ha, ht, invoke, builtin]
              simp [hvx, hvy, hr, FV.den, TV.den, SV.den]
              rfl
            · cases h
          · cases h
        · rename_i i off n cap ti hx hy hti
          split at h
          · rename_i e sz by_ hkd
            split at h
            · rename_i hsz
              cases h
              have e2 := Nat.eq_of_beq_eq_true hsz
              subst e2
              obtain ⟨ie, hu, hi, hsz2, hbb⟩ := kd_slice ((tlook_ok htt hti).kd.trans hkd)
              have ha : c.args = #[x, y] := by apply Array.ext'; simpa using hxs
              have ht : c.argTypes = #[t1, t2] := by apply Array.ext'; simpa using hts
              have hvx := opd_sound (g := none) hk trivial hx
              have hvy := opd_sound (g := none) hk trivial hy
              have his : (P.info? e).map (·.size) = some 1 := by rw [hi]; simp [hsz2]
              have hr := run_copy_none (P := P) w t1 t2 o.type e (cond (β i).nil none (some ⟨(β i).g, (β i).o + off, none⟩)) none n cap 0 0 hu his (by simp)
              refine ⟨_, _, β, w, hR, ?_, eff_same hm hF (by simp [FV.wf, TV.wf, SV.wf])⟩
              unfold execOp
              rw [hop]
              simp only [TV.den, SV.den] at hvx hvy
              simp only [resolve, hcal, ha, ht, invoke, builtin]
              simp [hvx, hvy, hr, FV.den, TV.den, SV.den]
              rfl
            · cases h
          · cases h
        · cases h
      · cases h
    · cases h
  · cases h

/-! ### Slicing as a value -/
theorem slice_run3 {P : Program} {w : World} {β : Nat → Bd} {fr : Fr} {a : Act} (hk : Knows β fr a) {t e : TypeId} {ie : TypeInfo} (hu : P.underlying t = some (.slice e)) (hi : P.info? e = some ie)
    {base : Option Addr} {len cap l h m : Nat} {lo : Option Operand} {hi' mx : Operand} {p q r : Prop} (hlo : boundP fr 0 l lo = some p) (hhi : boundP fr len h (some hi') = some q) (hmx : boundP fr cap m (some mx) = some r) (hp : p) (hq : q) (hr : r) (hlh : l ≤ h) (hhm : h ≤ m) (hmc : m ≤ cap) :
    (Instr.sliceAt t (.slice base len cap) (lo.map a.eval) (some (a.eval hi')) (some (a.eval mx))).run P w = .ok (.slice (if m = l then base else base.map (·.add (l * ie.size))) (h - l) (m - l)) w := by
  have h1 := boundP_low (P := P) (w := w) hk hlo hp hlh .slice3C
  have h2 := boundP_high (P := P) (w := w) hk hhi hq hhm .slice3B
  have h3 := boundP_high (P := P) (w := w) hk hmx hr hmc .slice3Acap
  unfold Instr.sliceAt
  simp only [Sem.run_bind, run_underlying hu, Result.andThen_ok]
  unfold Instr.slice
  simp only [Sem.run_bind, run_underlying hu, Result.andThen_ok]
  unfold Instr.sliceBounds
  simp only [Option.map_some] at h2 h3
  cases lo <;> simp only [Option.map_none, Option.map_some] at h1 ⊢ <;>
    simp_all [sizeOf_of hi]

def evW (tt : TT) (fr : Fr) (σ : List Ch) (op : Op) (k : FV → Prop) : Option Prop :=
  match op with
  | .slice t x lo hi none => match opd fr none x with
    | some (.s (.sl i off len cap)) => match tlook t tt, σ[i]? with
      | some ti, some c => match ti.kd, c.cells? with
        | .slice _ sz _, some _ => some (∃ l h : Nat, (∃ p q, boundP fr 0 l lo = some p ∧ boundP fr len h hi = some q ∧ p ∧ q) ∧ (l ≤ h ∧ h ≤ cap) ∧
            ∀ off', (cap ≠ l → off' = off + l * sz) → k (.t (.s (.sl i off' (h - l) (cap - l)))))
        | _, _ => none
      | _, _ => none
    | _ => none
  | .slice t x lo (some hi) (some mx) => match opd fr none x with
    | some (.s (.sl i off len cap)) => match tlook t tt, σ[i]? with
      | some ti, some c => match ti.kd, c.cells? with
        | .slice _ sz _, some _ => some (∃ l h m : Nat, (∃ p q r, boundP fr 0 l lo = some p ∧ boundP fr len h (some hi) = some q ∧ boundP fr cap m (some mx) = some r ∧ p ∧ q ∧ r) ∧ (l ≤ h ∧ h ≤ m ∧ m ≤ cap) ∧
            ∀ off', (m ≠ l → off' = off + l * sz) → k (.t (.s (.sl i off' (h - l) (m - l)))))
        | _, _ => none
      | _, _ => none
    | _ => none
  | _ => none

theorem evW_sound {P : Program} {tt : TT} (htt : TTok P tt) {β : Nat → Bd} {fr : Fr} {σ : List Ch} {a : Act} (hk : Knows β fr a) (hw : ∀ e ∈ fr, e.2.1.wf σ.length) {o : Oper} {k : FV → Prop} {R : Prop}
    (h : evW tt fr σ o.op k = some R) (hR : R) : ∃ v, k v ∧ v.wf σ.length ∧ ∀ w, (execOp a.eval o).run P w = .ok (.value (v.den β)) w := by
  unfold evW at h
  split at h
  · rename_i t x lo hi hop
    split at h
    · rename_i i off len cap hx
      split at h
      · rename_i ti c hti hc
        split at h
        · rename_i e sz by_ ys hkd hys
          cases h
          obtain ⟨l, h', ⟨p, q, hp, hq, hp', hq'⟩, ⟨hlh, hhc⟩, hkk⟩ := hR
          obtain ⟨ie, hu, hi', hsz, _⟩ := kd_slice ((tlook_ok htt hti).kd.trans hkd)
          refine ⟨_, hkk (if cap = l then off else off + l * sz) (fun hne => by rw [if_neg hne]), opd_wf hw hx, fun w => ?_⟩
          have hr := slice_run (P := P) (w := w) hk hu hi' (base := cond (β i).nil none (some ⟨(β i).g, (β i).o + off, none⟩)) (cap := cap) hp hq hp' hq' hlh hhc
          unfold execOp
          rw [hop]
          simp only [opd_sound (g := none) hk trivial hx, den_sl, Option.map_none, Sem.run_bind]
          rw [hr]
          simp only [Result.andThen_ok, Sem.run_pure, FV.den, den_sl, hsz]
          congr 3
          cases (β i).nil <;> by_cases hcl : cap = l <;> simp [hcl, addr_add, Nat.add_assoc]
        · cases h
      · cases h
    · cases h
  · rename_i t x lo hi mx hop
    split at h
    · rename_i i off len cap hx
      split at h
      · rename_i ti c hti hc
        split at h
        · rename_i e sz by_ ys hkd hys
          cases h
          obtain ⟨l, h', m, ⟨p, q, r, hp, hq, hr0, hp', hq', hr'⟩, ⟨hlh, hhm, hmc⟩, hkk⟩ := hR
          obtain ⟨ie, hu, hi', hsz, _⟩ := kd_slice ((tlook_ok htt hti).kd.trans hkd)
          refine ⟨_, hkk (if m = l then off else off + l * sz) (fun hne => by rw [if_neg hne]), opd_wf hw hx, fun w => ?_⟩
          have hr := slice_run3 (P := P) (w := w) hk hu hi' (base := cond (β i).nil none (some ⟨(β i).g, (β i).o + off, none⟩)) (cap := cap) hp hq hr0 hp' hq' hr' hlh hhm hmc
          unfold execOp
          rw [hop]
          simp only [opd_sound (g := none) hk trivial hx, den_sl, Option.map_some, Sem.run_bind]
          rw [hr]
          simp only [Result.andThen_ok, Sem.run_pure, FV.den, den_sl, hsz]
          congr 3
          cases (β i).nil <;> by_cases hcl : m = l <;> simp [hcl, addr_add, Nat.add_assoc]
        · cases h
      · cases h
    · cases h
  · cases h

end Go.Sx

namespace Go.Sx
open Go

def onlyViews : List Ch → Bool
  | [] => true
  | .view _ :: l => onlyViews l
  | .dead :: l => onlyViews l
  | .deep _ :: l => onlyViews l
  | _ :: _ => false
theorem onlyViews_foot : ∀ {l : List Ch}, onlyViews l = true → ∀ c ∈ l, (∀ b, c.foot b = []) ∧ ∀ m, c.wf m
  | [], _ => by simp
  | c :: l, h => by
    cases c with
    | view xs =>
      intro d hd
      rcases List.mem_cons.1 hd with rfl | hd
      · exact ⟨fun _ => rfl, fun _ => trivial⟩
      · exact onlyViews_foot (by simpa [onlyViews] using h) d hd
    | dead =>
      intro d hd
      rcases List.mem_cons.1 hd with rfl | hd
      · exact ⟨fun _ => rfl, fun _ => trivial⟩
      · exact onlyViews_foot (by simpa [onlyViews] using h) d hd
    | deep ps =>
      intro d hd
      rcases List.mem_cons.1 hd with rfl | hd
      · exact ⟨fun _ => rfl, fun _ => trivial⟩
      · exact onlyViews_foot (by simpa [onlyViews] using h) d hd
    | _ => simp [onlyViews] at h

/-- An argument: a closed value, or a slice's cells. -/
inductive RA where
  | v (t : TV)
  | row (xs : List Value) (len cap : Nat)

def raArgs : Nat → List RA → List TV
  | _, [] => []
  | k, .v t :: l => t :: raArgs k l
  | k, .row _ n c :: l => .s (.sl k 0 n c) :: raArgs (k + 1) l
def raViews : List RA → List Ch
  | [] => []
  | .v _ :: l => raViews l
  | .row xs _ _ :: l => .view xs :: raViews l

/-- A contract of a function that reads. -/
abbrev RdS (P : Program) (f : FuncId) (args : List RA) (v : FV) : Prop := TriS P f (raArgs 0 args) (raViews args) (γ := Unit) (fun _ => True) (fun _ => v) (fun _ => raViews args)

def raOne (tt : TT) (σ : List Ch) (t : TypeId) : TV → Option RA
  | .s (.sl i off n c) => match σ[i]?, tlook t tt with
    | some ch, some ti => match ch.cells?, ti.kd with
      | some xs, .slice _ sz _ => some (.row (seg xs off (n * sz)) n c)
      | _, _ => none
    | _, _ => none
  | t => match t.wfB 0 with
    | true => some (.v t)
    | false => none

/-- The arguments of a call, as a reader takes them. -/
def rasOf (tt : TT) (σ : List Ch) : List TV → List TypeId → Option (List RA)
  | [], _ => some []
  | t :: l, ty :: ts => match raOne tt σ ty t, rasOf tt σ l ts with
    | some x, some r => some (x :: r)
    | _, _ => none
  | _ :: _, [] => none

theorem TV.den_closed {β β' : Nat → Bd} {t : TV} (h : t.wfB 0 = true) : t.den β = t.den β' := TV.den_ext (m := 0) (fun i hi => by omega) (TV.wfB_spec h)

theorem raOne_sound {tt : TT} {β : Nat → Bd} {σ : List Ch} {φ : Heap} {w : World} (hm : Sat β σ φ w) {ty : TypeId} {t : TV} {x : RA} (h : raOne tt σ ty t = some x) :
    (x = .v t ∧ t.wfB 0 = true) ∨ ∃ xs n c b, x = .row xs n c ∧ (∀ β', (Ch.view xs).sat β' b w) ∧ ∀ (k : Nat) (β' : Nat → Bd), β' k = b → TV.den β' (.s (.sl k 0 n c)) = t.den β := by
  unfold raOne at h
  split at h
  · rename_i i off n c
    split at h
    · rename_i ch ti hc hti
      split at h
      · rename_i xs e sz by_ hxs hkd
        cases h
        refine .inr ⟨_, _, _, ⟨(β i).g, (β i).o + off, (β i).nil⟩, rfl, fun β' j v hv => ?_, fun k β' hb => ?_⟩
        · obtain ⟨h1, _⟩ := seg_get hv
          have := Ch.cells_at (hm.sat i ch hc) hxs _ _ h1
          rw [Nat.add_assoc]; exact this
        · rw [den_sl, den_sl, hb]
          simp
      · cases h
    · cases h
  · split at h
    · rename_i hw
      cases h
      exact .inl ⟨rfl, hw⟩
    · cases h

theorem rasOf_sound {tt : TT} {β : Nat → Bd} {σ : List Ch} {φ : Heap} {w : World} (hm : Sat β σ φ w) : ∀ (l : List TV) (ts : List TypeId) (r : List RA), rasOf tt σ l ts = some r →
    ∃ bs : List Bd, bs.length = (raViews r).length ∧ (∀ (j : Nat) (c : Ch) (b : Bd), (raViews r)[j]? = some c → bs[j]? = some b → ∀ β', c.sat β' b w) ∧
      ∀ (k : Nat) (β' : Nat → Bd), (∀ (j : Nat) (b : Bd), bs[j]? = some b → β' (k + j) = b) → (raArgs k r).map (TV.den β') = l.map (TV.den β)
  | [], ts, r, h => by
    simp [rasOf] at h; subst h
    exact ⟨[], rfl, fun j c b hc => by simp [raViews] at hc, fun _ _ _ => rfl⟩
  | t :: l, [], r, h => by simp [rasOf] at h
  | t :: l, ty :: ts, r, h => by
    simp only [rasOf] at h
    split at h
    · rename_i x r' hx hr
      cases h
      obtain ⟨bs, h1, h2, h3⟩ := rasOf_sound hm l ts r' hr
      rcases raOne_sound hm hx with ⟨rfl, hw⟩ | ⟨xs, n, c, b, rfl, hs, hd⟩
      · refine ⟨bs, h1, h2, fun k β' hb => ?_⟩
        simp only [raArgs, List.map_cons, h3 k β' hb, TV.den_closed (β := β') (β' := β) hw]
      · refine ⟨b :: bs, by simp [raViews, h1], fun j c' b' hc hb => ?_, fun k β' hb => ?_⟩
        · cases j with
          | zero => simp [raViews] at hc hb; subst hc; subst hb; exact hs
          | succ j => exact h2 j c' b' (by simpa [raViews] using hc) (by simpa using hb)
        · have e0 := hd k β' (by simpa using hb 0 b rfl)
          have e1 := h3 (k + 1) β' (fun j b' hj => by have := hb (j + 1) b' (by simpa using hj); rw [← this]; congr 1; omega)
          simp only [raArgs, List.map_cons, e0, e1]
    · cases h

theorem raViews_only : ∀ (r : List RA), onlyViews (raViews r) = true
  | [] => rfl
  | .v _ :: l => raViews_only l
  | .row _ _ _ :: l => by simp only [raViews, onlyViews, raViews_only l]

/-- A reader is called: the value; old memory as it was. -/
theorem reader_calls {P : Program} {f : FuncId} {args : List RA} {v : FV} (hc : RdS P f args v) {tt : TT} {β : Nat → Bd} {σ : List Ch} {φ : Heap} {w : World} (hm : Sat β σ φ w) {l : List TV} {ts : List TypeId} (hr : rasOf tt σ l ts = some args) :
    Calls P f (l.map (TV.den β)).toArray w fun e w' => (∃ β', e = .returned (v.den β')) ∧ Same w w' ∧ ∀ g, g < w.heap.size → w'.heap[g]? = w.heap[g]? := by
  obtain ⟨bs, h1, h2, h3⟩ := rasOf_sound hm l ts args hr
  let β1 : Nat → Bd := fun k => bs.getD k ⟨0, 0, true⟩
  have hb1 : ∀ (j : Nat) (b : Bd), bs[j]? = some b → β1 j = b := fun j b hj => by simp [β1, List.getD, hj]
  rw [← h3 0 β1 (fun j b hj => by rw [Nat.zero_add]; exact hb1 j b hj)]
  have hfw := onlyViews_foot (raViews_only args)
  let ψ : Heap := (List.range w.heap.size).filterMap fun g => (w.heap[g]?).map fun o => (g, o)
  have hψ : ∀ g, g < w.heap.size → (g, w.heap[g]!) ∈ ψ := by
    intro g hg
    simp only [ψ, List.mem_filterMap, List.mem_range]
    exact ⟨g, hg, by simp [hg]⟩
  have hsat : Sat β1 (raViews args) ψ w := by
    refine ⟨?_, ?_, ?_, ?_, fun c hc => (hfw c hc).2 _⟩
    · intro i j c d hc _ _ g hg
      rw [(hfw c (List.mem_of_getElem? hc)).1] at hg; simp at hg
    · intro i c hc g hg
      rw [(hfw c (List.mem_of_getElem? hc)).1] at hg; simp at hg
    · intro i c hc
      have hi := (List.getElem?_eq_some_iff.1 hc).1
      rw [← h1] at hi
      have hbi := List.getElem?_eq_getElem hi
      rw [hb1 i _ hbi]
      exact h2 i c _ hc hbi β1
    · intro p hp
      simp only [ψ, List.mem_filterMap, List.mem_range, Option.map_eq_some_iff] at hp
      obtain ⟨g, _, o, ho, rfl⟩ := hp
      exact ho
  refine (hc.h β1 ψ w hsat).mono ?_
  rintro e w' ⟨x, β', _, _, _, rfl, _, hs1, hsame, _⟩
  refine ⟨⟨β', rfl⟩, hsame, fun k hk => ?_⟩
  rw [hs1.frame _ (hψ k hk)]
  simp [hk]

end Go.Sx

namespace Go.Sx
open Go

def lookE : List (IntKind × Int × TV) → Int → Option TV
  | [], _ => none
  | e :: l, n => match n == e.2.1 with
    | true => some e.2.2
    | false => lookE l n
def kdsOk (q : IntKind) : List (IntKind × Int × TV) → Bool
  | [] => true
  | e :: l => match Nat.beq (kn e.1) (kn q) with
    | true => kdsOk q l
    | false => false
def lkV (z : TV) (ok : Bool) (r : Option TV) : FV := match ok, r with
  | true, some v => .tup [v, .s (.bool true)]
  | true, none => .tup [z, .s (.bool false)]
  | false, some v => .t v
  | false, none => .t z

/-- Making and looking up. -/
def evM (tt : TT) (fr : Fr) (σ : List Ch) (op : Op) (k : FV → List Ch → Prop) : Option Prop := match op with
  | .makeMap _ none => some (lenK σ fun i => forceL (σ ++ [.mp []]) fun σ' => k (.t (.s (.mp i))) σ')
  | .lookup t m key ok => match opd fr none m, opd fr none key, tlook t tt with
    | some (.s (.mp i)), some (.s (.int q n)), some ti => match σ[i]?, ti.kd with
      | some (.mp es), .mapi q' z => match Nat.beq (kn q) (kn q'), kdsOk q es, ofTV z with
        | true, true, some z' => some (∃ r, lookE es n = r ∧ k (lkV z' ok r) σ)
        | _, _, _ => none
      | _, _ => none
    | _, _, _ => none
  | .binOp .eql t x y _ => match opd fr none x, opd fr none y, tlook t tt with
    | some (.s (.sl i _ _ _)), some (.s (.raw (.slice none _ _))), some ti => match σ[i]?, ti.kd with
      | some c, .slice _ _ _ => match c.cells? with
        | some xs => some (∀ b : Bool, (b = true → xs = []) → k (.t (.s (.bool b))) σ)
        | none => none
      | _, _ => none
    | _, _, _ => none
  | _ => none
/-- Filling. -/
def evMi (tt : TT) (fr : Fr) (σ : List Ch) (op : Op) (k : List Ch → Prop) : Option Prop := match op with
  | .insert t m key v => match opd fr none m, opd fr none key, opd fr none v, tlook t tt with
    | some (.s (.mp i)), some (.s (.int q n)), some v, some ti => match σ[i]?, ti.kd with
      | some (.mp es), .mapi q' _ => match Nat.beq (kn q) (kn q'), kdsOk q es with
        | true, true => some (lookE es n = none ∧ forceL (es ++ [(q, n, v)]) fun es' => forceL (σ.set i (.mp es')) fun σ' => k σ')
        | _, _ => none
      | _, _ => none
    | _, _, _, _ => none
  | _ => none

theorem kdsOk_spec {q : IntKind} : ∀ {l : List (IntKind × Int × TV)}, kdsOk q l = true → ∀ e ∈ l, e.1 = q
  | [], _ => by simp
  | x :: l, h => by
    unfold kdsOk at h
    split at h
    · rename_i hx
      intro e he
      rcases List.mem_cons.1 he with rfl | he
      · exact kn_eq hx
      · exact kdsOk_spec h e he
    · cases h
theorem mpEs_len {β : Nat → Bd} : ∀ (l : List (IntKind × Int × TV)) (i : Nat), (mpEs β i l).length = l.length
  | [], _ => rfl
  | e :: l, i => by simp only [mpEs, List.length_cons, mpEs_len l]
theorem mpEs_append {β : Nat → Bd} : ∀ (l r : List (IntKind × Int × TV)) (i : Nat), mpEs β i (l ++ r) = mpEs β i l ++ mpEs β (i + l.length) r
  | [], _, _ => rfl
  | e :: l, r, i => by
    simp only [List.cons_append, mpEs, mpEs_append l, List.length_cons]
    rw [show i + 1 + l.length = i + (l.length + 1) by omega]

theorem find_look {β : Nat → Bd} {q : IntKind} {n : Int} : ∀ {l : List (IntKind × Int × TV)} (_ : ∀ e ∈ l, e.1 = q) (i j : Nat),
    (∀ v, lookE l n = some v → ∃ j', Instr.findNow (.int q) (.int q n) (mpEs β i l) j = some (some (j', v.den β))) ∧ (lookE l n = none → Instr.findNow (.int q) (.int q n) (mpEs β i l) j = some none)
  | [], _, i, j => ⟨fun v h => by simp [lookE] at h, fun _ => rfl⟩
  | e :: l, hq, i, j => by
    have e1 := hq e (by simp)
    have ih := find_look (β := β) (q := q) (n := n) (l := l) (fun x hx => hq x (by simp [hx])) (i + 1) (j + 1)
    unfold lookE
    simp only [mpEs, Instr.findNow, Instr.sameNow, e1, if_true]
    cases hn : (n == e.2.1) with
    | true => exact ⟨fun v h => ⟨j, by cases h; rfl⟩, fun h => by cases h⟩
    | false => exact ih

theorem run_under {P : Program} {w : World} {t : TypeId} {d : TypeDesc} (h : P.underlying t = some d) : (underlying t).run P w = .ok d w := by
  simp [underlying, h]
theorem run_checkInt {P : Program} {w : World} {t : TypeId} {q : IntKind} (h : P.underlying t = some (.int q)) (b : Bool) (v : Value) : (Instr.checkKey b 10000 t v).run P w = .ok () w := by
  unfold Instr.checkKey
  simp only [Sem.run_bind, run_under h, Result.andThen]
  rfl
theorem run_getMap {P : Program} {w : World} {r : Nat} {es : Array MapEntry} {clock : Nat} (hb : w.heap[r]? = some (.map es clock)) : (getObj r).run P w = .ok (.map es clock) w := by
  simp [getObj, Sem.run, hb]
theorem run_setMap {P : Program} {w : World} {r : Nat} {es : Array MapEntry} {clock : Nat} (o : Obj) (hb : w.heap[r]? = some (.map es clock)) : (setObj r o).run P w = .ok () { w with heap := w.heap.setIfInBounds r o } := by
  simp [setObj, Sem.run, hb]
theorem run_find {P : Program} {w : World} {kt : TypeId} {q : IntKind} {k : Value} {l : List MapEntry} {a : Option (Nat × Value)} (hd : P.underlying kt = some (.int q)) (h : Instr.findNow (.int q) k l 0 = some a) : (Instr.findKey kt k l).run P w = .ok a w := by
  simp only [Instr.findKey, Sem.run_bind, run_under hd, Result.andThen]
  rw [h]; rfl

theorem zero_at {P : Program} {e : TypeId} {z : Value} (h : (P.info? e).bind (·.zero) = some z) (w : World) : (zeroValue e).run P w = .ok z w := by
  cases hi : P.info? e with
  | none => simp [hi] at h
  | some x => simp [hi] at h; simp [zeroValue, typeInfo, hi, h]

theorem run_equalIn_sl {P : Program} (w : World) (d : Nat) (t : TypeId) {e : TypeId} (b : Bool) (a : Addr) (n c n' c' : Nat) (hu : P.underlying t = some (.slice e)) : (Op.equalIn (d + 1) t (.slice (cond b none (some a)) n c) (.slice none n' c')).run P w = .ok b w := by
  unfold Op.equalIn
  simp only [Sem.run_bind, run_under hu, Result.andThen_ok]
  cases b <;> rfl

theorem evM_sound {P : Program} {tt : TT} (htt : TTok P tt) {β : Nat → Bd} {fr : Fr} {σ : List Ch} {φ : Heap} {a : Act} {w : World} (hk : Knows β fr a) (hm : Sat β σ φ w) {F : Nat → Prop} (hF : ∀ (l : Nat) (d : Ch), σ[l]? = some d → ∀ g, g ∈ d.rfoot (β l) → F g ∨ w.heap.size ≤ g)
    {o : Oper} {k : FV → List Ch → Prop} {R : Prop} (h : evM tt fr σ o.op k = some R) (hR : R) :
    ∃ v σ' β' w', k v σ' ∧ (execOp a.eval o).run P w = .ok (.value (v.den β')) w' ∧ Eff P F β σ φ w v β' σ' w' := by
  unfold evM at h
  split at h
  · rename_i t hop
    cases h
    rw [lenK_eq, forceL_eq] at hR
    obtain ⟨β', hb, hbn, hsat⟩ := hm.alloc (.mp []) (.map #[] 0) rfl (fun x hx => by simp at hx) (fun β' hb _ => ⟨rfl, heap_alloc_new w _⟩)
    refine ⟨_, _, β', _, hR, ?_, ⟨hb, by simp, hsat, Same.alloc w _, by simp [FV.wf, TV.wf, SV.wf], ?_⟩⟩
    · unfold execOp
      rw [hop]
      simp [Instr.makeMap, newObj, FV.den, TV.den, SV.den, hbn]
      rfl
    · intro l c hc g hgm
      rcases append_get hc with ⟨hl', hd'⟩ | ⟨rfl, rfl⟩
      · rw [hb l hl'] at hgm; exact hF l c hd' g hgm
      · rw [hbn] at hgm; simp [Ch.rfoot, Ch.foot] at hgm; exact .inr (by omega)
  · rename_i t m key ok hop
    split at h
    · rename_i i q n ti hx hy hti
      split at h
      · rename_i es q' z hc hkd
        split at h
        · rename_i z' h1 h2 hz
          cases h
          obtain ⟨r, hr, hkk⟩ := hR
          have e1 := kn_eq h1
          subst e1
          obtain ⟨kt, et, u1, u2, u3⟩ := kd_mapi ((tlook_ok htt hti).kd.trans hkd)
          have hsat := hm.sat i _ hc
          have hfl := find_look (β := β) (n := n) (kdsOk_spec h2) 0 0
          have hwf : (lkV z' ok r).wf σ.length := by
            have hz' := ofTV_wf (m := σ.length) hz
            have hes : ∀ v, lookE es n = some v → v.wf σ.length := by
              have hwes : ∀ e ∈ es, e.2.2.wf σ.length := hm.wf _ (List.mem_of_getElem? hc)
              intro v
              clear hr hkk hfl hsat hc h2
              induction es with
              | nil => intro h; simp [lookE] at h
              | cons e l ih =>
                intro h
                unfold lookE at h
                split at h
                · cases h; exact hwes e (by simp)
                · exact ih (fun x hx => hwes x (by simp [hx])) h
            cases ok <;> cases r <;> simp only [lkV, FV.wf]
            · exact hz'
            · exact hes _ hr
            · intro x hx; simp at hx; rcases hx with rfl | rfl
              · exact hz'
              · trivial
            · intro x hx; simp at hx; rcases hx with rfl | rfl
              · exact hes _ hr
              · trivial
          refine ⟨_, σ, β, w, hkk, ?_, ⟨fun _ _ => rfl, Nat.le_refl _, hm, Same.refl w, hwf, hF⟩⟩
          unfold execOp
          rw [hop]
          have ex := opd_sound (g := none) hk trivial hx
          have ey := opd_sound (g := none) hk trivial hy
          simp only [TV.den, SV.den] at ex ey
          have e3 : (Instr.lookup t (.map (some (β i).g)) (.int q n) ok).run P w = .ok ((lkV z' ok r).den β) w := by
            simp only [Instr.lookup, Sem.run_bind, run_under u1, Result.andThen_ok, run_getMap hsat.2, Sem.run_pure, run_checkInt u2]
            cases r with
            | none =>
              rw [run_find u2 (hfl.2 hr)]
              have hzd : z'.den β = z := ofTV_den hz
              have hb : (SV.bool false).den β = .bool false := rfl
              cases ok <;> simp [Result.andThen, zero_at u3, lkV, FV.den, hzd] <;> rfl
            | some v =>
              obtain ⟨j', hj⟩ := hfl.1 v hr
              rw [run_find u2 hj]
              cases ok <;> simp [Result.andThen, lkV, FV.den] <;> rfl
          simp only [ex, ey, Sem.run_bind, e3, Result.andThen_ok]
          rfl
        · cases h
      · cases h
    · cases h
  · rename_i t x y T2 hop
    split at h
    · rename_i i off len cap n' c' ti hx hy hti
      split at h
      · rename_i c e sz by_ hc hkd
        split at h
        · rename_i xs hxs
          cases h
          have hnil : (β i).nil = true → xs = [] := by
            intro hn
            cases xs with
            | nil => rfl
            | cons v l =>
              have := (Ch.cells_at (hm.sat i c hc) hxs 0 v rfl).1
              rw [hn] at this; cases this
          refine ⟨_, σ, β, w, hR (β i).nil hnil, ?_, ⟨fun _ _ => rfl, Nat.le_refl _, hm, Same.refl w, trivial, hF⟩⟩
          unfold execOp
          rw [hop]
          have ex := opd_sound (g := none) hk trivial hx
          have ey := opd_sound (g := none) hk trivial hy
          simp only [TV.den, SV.den] at ex ey
          obtain ⟨_, hu, _⟩ := kd_slice ((tlook_ok htt hti).kd.trans hkd)
          have e3 := run_equalIn_sl (P := P) w 9999 t (β i).nil ⟨(β i).g, (β i).o + off, none⟩ len cap n' c' hu
          simp only [ex, ey, Sem.run_bind]
          simp [eqGuard, binOp, Op.equal, Op.maxDepth, e3, FV.den, TV.den, SV.den]
        · cases h
      · cases h
    · cases h
  · cases h

section
variable {P : Program} {tt : TT} (htt : TTok P tt) {β : Nat → Bd} {fr : Fr} {σ : List Ch} {φ : Heap} {a : Act} {w : World} (hk : Knows β fr a) (hw : ∀ e ∈ fr, e.2.1.wf σ.length) (hm : Sat β σ φ w)
include htt hk hw hm

theorem evMi_sound {o : Oper} {k : List Ch → Prop} {R : Prop} (h : evMi tt fr σ o.op k = some R) (hR : R) :
    ∃ σ' w', k σ' ∧ (execOp a.eval o).run P w = .ok .skip w' ∧ Sat β σ' φ w' ∧ Same w w' ∧ σ'.length = σ.length ∧
      ∀ (l : Nat) (d : Ch), σ'[l]? = some d → ∀ g, g ∈ d.rfoot (β l) → ∃ (l' : Nat) (d' : Ch), σ[l']? = some d' ∧ g ∈ d'.rfoot (β l') := by
  unfold evMi at h
  split at h
  · rename_i t m key v hop
    split at h
    · rename_i i q n v ti hx hy hv hti
      split at h
      · rename_i es q' z hc hkd
        split at h
        · rename_i h1 h2
          cases h
          obtain ⟨hno, hkk⟩ := hR
          rw [forceL_eq, forceL_eq] at hkk
          have e1 := kn_eq h1
          subst e1
          obtain ⟨kt, et, u1, u2, u3⟩ := kd_mapi ((tlook_ok htt hti).kd.trans hkd)
          have hsat := hm.sat i _ hc
          have hlt : (β i).g < w.heap.size := (Array.getElem?_eq_some_iff.1 hsat.2).1
          have hfl := (find_look (β := β) (n := n) (kdsOk_spec h2) 0 0).2 hno
          have hwv := opd_wf hw hv
          have hwes : ∀ e ∈ es, e.2.2.wf σ.length := hm.wf _ (List.mem_of_getElem? hc)
          refine ⟨_, { w with heap := w.heap.setIfInBounds (β i).g (.map (mpEs β 0 (es ++ [(q, n, v)])).toArray (es.length + 1)) }, hkk, ?_, ?_, ⟨rfl, rfl, rfl, by simp⟩, by simp, ?_⟩
          · unfold execOp
            rw [hop]
            have ex := opd_sound (g := none) hk trivial hx
            have ey := opd_sound (g := none) hk trivial hy
            have ev := opd_sound (g := none) hk trivial hv
            simp only [TV.den, SV.den] at ex ey
            have e3 : (Instr.mapUpdate t (.map (some (β i).g)) (.int q n) (v.den β)).run P w = .ok () { w with heap := w.heap.setIfInBounds (β i).g (.map (mpEs β 0 (es ++ [(q, n, v)])).toArray (es.length + 1)) } := by
              simp only [Instr.mapUpdate, Sem.run_bind, run_under u1, Result.andThen_ok, run_getMap hsat.2, run_checkInt u2, run_find u2 hfl, run_setMap _ hsat.2]
              rw [mpEs_append]
              simp [mpEs]
            simp only [ex, ey, ev, Sem.run_bind, e3, Result.andThen_ok]
            rfl
          · refine hm.change hc rfl (fun _ hg => hg) ?_ ⟨hsat.1, ?_⟩ (fun g hg => ?_)
            · intro e he
              rcases List.mem_append.1 he with he | he
              · exact hwes e he
              · simp at he; subst he; exact hwv
            · simp [hlt]
            · have : g ≠ (β i).g := by simpa [Ch.foot] using hg
              simp [Ne.symm this]
          · intro l d hd g hg
            by_cases hil : i = l
            · subst hil
              have hlt := (List.getElem?_eq_some_iff.1 hc).1
              rw [List.getElem?_set_self hlt] at hd; cases hd
              exact ⟨i, _, hc, hg⟩
            · rw [List.getElem?_set_ne hil] at hd; exact ⟨l, d, hd, hg⟩
        · cases h
      · cases h
    · cases h
  · cases h
end
end Go.Sx

namespace Go.Sx
open Go

/-- A store into a row. -/
def evG (tt : TT) (fr : Fr) (σ : List Ch) (op : Op) (k : List Ch → Prop) : Option Prop :=
  match op with
  | .store t x y => match opd fr none x, opd fr none y with
    | some (.s (.loc i off)), some u => match σ[i]?, u.cells, tlook t tt with
      | some c, some vs, some ti => match c.cells? with
        | some xs => match c.write? (setV xs off (vs.map SV.cv)), allB (SV.wfB 0) vs, Nat.beq vs.length ti.size, Nat.ble 1 vs.length with
          | some c', true, true, true => some (off + ti.size ≤ xs.length ∧ forceL (σ.set i c') fun σ' => k σ')
          | _, _, _, _ => none
        | none => none
      | _, _, _ => none
    | _, _ => none
  | _ => evMi tt fr σ op k

theorem storeVar_run {P : Program} {t : TypeId} {ti : TI} (h : TIok P t ti) {w w' : World} {a : Addr} {v : Value} (hs : v.cells.size = ti.size) (hr : (storeCells a v.cells.toList).run P w = .ok () w') :
    (Instr.storeAt t (.pointer (some a)) v).run P w = .ok () w' := by
  simp [Instr.storeAt, Instr.sureAddr, storeVar, sizeOf_run h, hs, hr]

theorem evG_sound {P : Program} {tt : TT} (htt : TTok P tt) {β : Nat → Bd} {fr : Fr} {σ : List Ch} {φ : Heap} {a : Act} {w : World} (hk : Knows β fr a)
    (hw : ∀ e ∈ fr, e.2.1.wf σ.length) (hm : Sat β σ φ w) {o : Oper} {k : List Ch → Prop} {R : Prop} (h : evG tt fr σ o.op k = some R) (hR : R) :
    ∃ σ' w', k σ' ∧ (execOp a.eval o).run P w = .ok .skip w' ∧ Sat β σ' φ w' ∧ Same w w' ∧ σ'.length = σ.length ∧
      ∀ (l : Nat) (d : Ch), σ'[l]? = some d → ∀ g, g ∈ d.rfoot (β l) → ∃ (l' : Nat) (d' : Ch), σ[l']? = some d' ∧ g ∈ d'.rfoot (β l') := by
  unfold evG at h
  split at h
  · rename_i t x y hop
    split at h
    · rename_i i off u hx hy
      split at h
      · rename_i c vs ti hc hvs hti
        split at h
        · rename_i xs hxs
          split at h
          · rename_i c' hw' hcl hlen hne
            cases h
            obtain ⟨hle, hkk⟩ := hR
            rw [forceL_eq] at hkk
            have e1 := Nat.eq_of_beq_eq_true hlen
            have e2 := Nat.le_of_ble_eq_true hne
            have hcd := TV.cells_den (β := β) (opd_wf hw hy) hvs
            rw [SV.map_cv hcl] at hcd
            obtain ⟨hnil, w', hr, hs, hsame⟩ := eff_write (P := P) hm hc hxs hw' (by simp; omega)
              (fun v hv => by obtain ⟨q, hq, rfl⟩ := List.mem_map.1 hv; exact SV.oneCell (m := 0) (SV.wfB_spec (allB_spec hcl q hq)))
              (fun e => by have := congrArg List.length e; simp at this; rw [this] at e2; simp at e2)
            refine ⟨_, w', hkk, ?_, hs, hsame, by simp, ?_⟩
            · have := storeVar_run (tlook_ok htt hti) (w := w) (w' := w') (a := ⟨(β i).g, (β i).o + off, none⟩) (v := u.den β) (by rw [hcd]; simpa using e1) (by rw [hcd]; exact hr)
              unfold execOp
              rw [hop]
              simp only [opd_sound (g := none) hk trivial hx, opd_sound (g := none) hk trivial hy, den_loc, Sem.run_bind, this, Result.andThen_ok]
              rfl
            · intro l d hd g hg
              by_cases hil : i = l
              · subst hil
                have hlt := (List.getElem?_eq_some_iff.1 hc).1
                rw [List.getElem?_set_self hlt] at hd; cases hd
                refine ⟨i, c, hc, ?_⟩
                cases c <;> simp [Ch.write?] at hw' <;> subst hw' <;> exact hg
              · rw [List.getElem?_set_ne hil] at hd; exact ⟨l, d, hd, hg⟩
          · cases h
        · cases h
      · cases h
    · cases h
  · exact evMi_sound htt hk hw hm h hR

/-! ### The table of pure calls -/
/-- A function's entry: one that only computes; one that reads slices. -/
inductive Ent where
  | pure (s : List TV → Option (Prop × FV))
  | rd (s : List RA → (Prop → Prop) → (FV → Prop) → Option Prop)
  | st (s : List TV → List Ch → (FV → List Ch → Prop) → Option Prop)
instance : Coe (List TV → Option (Prop × FV)) Ent := ⟨.pure⟩
abbrev CT := List (Nat × Ent)
def clook (d : Nat) : CT → Option Ent
  | [] => none
  | e :: r => match Nat.beq d e.1 with
    | true => some e.2
    | false => clook d r
structure CEok (P : Program) (f : Nat) (s : List TV → Option (Prop × FV)) : Prop where
  cal : Sx.Callee P f
  ok : ∀ args p v, s args = some (p, v) → p → Pure P f args v
structure REok (P : Program) (f : Nat) (s : List RA → (Prop → Prop) → (FV → Prop) → Option Prop) : Prop where
  cal : Sx.Callee P f
  ok : ∀ args ask k R, s args ask k = some R → R → ∃ v, k v ∧ v.wfB 0 = true ∧ ((∀ p, ask p → p) → RdS P f args v)
/-- Called over these chunks the function returns v and leaves σ' with k v σ'. -/
abbrev CallS (P : Program) (f : FuncId) (args : List TV) (σ : List Ch) (k : FV → List Ch → Prop) : Prop :=
  TriS P f args σ (γ := FV × List Ch) (fun x => k x.1 x.2) (fun x => x.1) (fun x => x.2)
structure StOk (P : Program) (f : Nat) (s : List TV → List Ch → (FV → List Ch → Prop) → Option Prop) : Prop where
  cal : Sx.Callee P f
  ok : ∀ args σ k R, s args σ k = some R → R → CallS P f args σ k
def EntOk (P : Program) (f : Nat) : Ent → Prop
  | .pure s => CEok P f s
  | .rd s => REok P f s
  | .st s => StOk P f s
def CTok (P : Program) : CT → Prop
  | [] => True
  | e :: r => EntOk P e.1 e.2 ∧ CTok P r
theorem clook_ok {P : Program} : ∀ {ct : CT}, CTok P ct → ∀ {f : Nat} {s : Ent}, clook f ct = some s → EntOk P f s
  | [], _, _, _, h => by simp [clook] at h
  | e :: r, ⟨h1, h2⟩, f, s, h => by
    unfold clook at h
    split at h
    · rename_i he
      cases h
      have : f = e.1 := Nat.eq_of_beq_eq_true he
      rw [this]; exact h1
    · exact clook_ok h2 h

/-- A call of a function in the table. -/
def evC (ct : CT) (fr : Fr) (g : Gd) (op : Op) : Option (Prop × FV) :=
  match op with
  | .call c => match c.callee with
    | .value fx => match opd fr g fx with
      | some (.clo (.func f) [] []) => match clook f ct, opds fr g c.args.toList with
        | some (.pure s), some l => match allB (TV.wfB 0) l, s l with
          | true, some (p, v) => match v.wfB 0 with
            | true => some (p, v)
            | false => none
          | _, _ => none
        | _, _ => none
      | _ => none
    | _ => none
  | _ => none

/-- A call of a reader. -/
def evR (tt : TT) (ct : CT) (fr : Fr) (g : Gd) (gb : Option (Bool × Bool)) (σ : List Ch) (op : Op) (k : FV → Prop) : Option Prop :=
  match op with
  | .call c => match c.callee with
    | .value fx => match opd fr g fx with
      | some (.clo (.func f) [] []) => match clook f ct, opds fr g c.args.toList with
        | some (.rd s), some l => match rasOf tt σ l c.argTypes.toList with
          | some args => s args (whenP gb) k
          | none => none
        | _, _ => none
      | _ => none
    | _ => none
  | _ => none

theorem evR_sound {P : Program} {tt : TT} {ct : CT} (hct : CTok P ct) {fr : Fr} {g : Gd} {gb : Option (Bool × Bool)} {σ : List Ch} {op : Op} {k : FV → Prop} {R : Prop} (h : evR tt ct fr g gb σ op k = some R) (hR : R) :
    ∃ v, k v ∧ v.wfB 0 = true ∧ ∃ c fx f l args, op = .call c ∧ c.callee = .value fx ∧ opd fr g fx = some (.clo (.func f) [] []) ∧ opds fr g c.args.toList = some l ∧ rasOf tt σ l c.argTypes.toList = some args ∧
      Sx.Callee P f ∧ ((∀ p, whenP gb p → p) → RdS P f args v) := by
  unfold evR at h
  split at h
  · rename_i c
    split at h
    · rename_i fx hcal
      split at h
      · rename_i f hfx
        split at h
        · rename_i s l hs hl
          split at h
          · rename_i args hr
            have hok : REok P f s := clook_ok hct hs
            obtain ⟨v, h1, h2, h3⟩ := hok.ok args _ _ _ h hR
            exact ⟨v, h1, h2, c, fx, f, l, args, rfl, hcal, hfx, hl, hr, hok.cal, h3⟩
          · cases h
        · cases h
      · cases h
    · cases h
  · cases h

/-- A function value: its number, what it hands over ahead of the arguments and behind them. -/
def asClo : TV → Option (FuncId × List TV × List SV)
  | .clo (.func f) a b => some (f, a.map .s, b)
  | .bnd (.func f) l => some (f, [.agg l], [])
  | .s (.raw (.func (.func f) a b)) => match a.toList, b.toList with
    | [], [] => some (f, [], [])
    | _, _ => none
  | _ => none
theorem asClo_den {β : Nat → Bd} {t : TV} {f : FuncId} {a : List TV} {b : List SV} (h : asClo t = some (f, a, b)) : t.den β = .func (.func f) (a.map (TV.den β)).toArray (b.map (SV.den β)).toArray := by
  unfold asClo at h
  split at h
  · cases h
    simp only [TV.den, List.map_map]
    congr 2
  · cases h; rfl
  · rename_i x y
    split at h
    · rename_i hx hy
      cases h
      have e1 : x = #[] := by apply Array.ext'; simpa using hx
      have e2 : y = #[] := by apply Array.ext'; simpa using hy
      subst e1; subst e2; rfl
    · cases h
  · cases h

/-- A call of a function that may change the chunks. -/
def evS (ct : CT) (fr : Fr) (σ : List Ch) (op : Op) (k : FV → List Ch → Prop) : Option Prop :=
  match op with
  | .call c => match c.callee with
    | .value fx => match opd fr none fx with
      | some t => match asClo t with
        | some (f, a, b) => match clook f ct, opds fr none c.args.toList with
          | some (.st s), some l => s (a ++ (l ++ b.map .s)) σ k
          | _, _ => none
        | none => none
      | none => none
    | _ => none
  | _ => none

theorem evS_sound {P : Program} {ct : CT} (hct : CTok P ct) {fr : Fr} {σ : List Ch} {op : Op} {k : FV → List Ch → Prop} {R : Prop} (h : evS ct fr σ op k = some R) (hR : R) :
    ∃ c fx t f a b l, op = .call c ∧ c.callee = .value fx ∧ opd fr none fx = some t ∧ asClo t = some (f, a, b) ∧ opds fr none c.args.toList = some l ∧ Sx.Callee P f ∧ CallS P f (a ++ (l ++ b.map .s)) σ k := by
  unfold evS at h
  split at h
  · rename_i c
    split at h
    · rename_i fx hcal
      split at h
      · rename_i t hfx
        split at h
        · rename_i f a b hclo
          split at h
          · rename_i s l hs hl
            have hok : StOk P f s := clook_ok hct hs
            exact ⟨c, fx, t, f, a, b, l, rfl, hcal, hfx, hclo, hl, hok.cal, hok.ok _ _ _ _ h hR⟩
          · cases h
        · cases h
      · cases h
    · cases h
  · cases h

inductive GI where
  | no
  | yes (t : Nat) (p b : Bool)
  | bad

def guardI (all : List Oper) (gs : List Nat) (fr : Fr) (o : Oper) : GI := match o.guard with
  | none => .no
  | some (j, p) => match guardTmp all j with
    | some t => match elemN t gs with
      | true => match look t fr with
        | some (.t (.s (.bool b)), none) => .yes t p b
        | _ => match gcond fr 8 t with
          | some (w, b) => match p with
            | true => .yes t true (w && b)
            | false => .yes t false (!w || b)
          | none => .bad
      | false => .bad
    | none => .bad

/-- What was known under a guard, where the guard holds. -/
def unlock (t : Nat) (p : Bool) : Fr → Fr
  | [] => []
  | (d, v, g) :: r => match gmatch g t p with
    | true => (d, v, none) :: unlock t p r
    | false => (d, v, g) :: unlock t p r

/-- One operation, in a slot d, without a guard. -/
def exOne (tt : TT) (ct : CT) (fr : Fr) (σ : List Ch) (op : Op) (k : FV → List Ch → Prop) : Option Prop :=
  match evNew tt fr op with
  | some (e, cs) => some (lenK σ fun i => forceL (σ ++ [.blk e cs]) fun σ' => k (.t (.s (.loc i 0))) σ')
  | none => match ev tt fr none σ op with
    | .val v => some (k v σ)
    | _ => match evX tt fr none none σ op (fun v => k v σ) with
      | some R => some R
      | none => match evF tt fr σ op k with
        | some R => some R
        | none => match evR tt ct fr none none σ op (fun v => k v σ) with
          | some R => some R
          | none => match evC ct fr none op with
            | some (p, v) => some (p ∧ k v σ)
            | none => match evW tt fr σ op (fun v => k v σ) with
              | some R => some R
              | none => match evM tt fr σ op k with
                | some R => some R
                | none => evS ct fr σ op k

/-- A slot whose value is told by the proof: another, equal writing. -/
def tellB (tt : TT) (n : Nat) (gs : List Nat) (all : List Oper) (K : List Oper → Fr → List Ch → Prop) (o : Oper) (rest : List Oper) (ih : Fr → List Ch → Prop) (d : Nat) (fr : Fr) (σ : List Ch) : Prop :=
  match canPut n gs d fr with
  | true => match guardI all gs fr o with
    | .no => match ev tt fr none σ o.op with
      | .val v => ∃ v', (∀ β, v'.den β = v.den β) ∧ v'.wfB σ.length = true ∧ ih ((d, v', none) :: fr) σ
      | _ => K (o :: rest) fr σ
    | .yes t p b => match Nat.beq t d with
      | true => K (o :: rest) fr σ
      | false => match ev tt fr (some (t, p)) σ o.op with
        | .val v => ∃ v', (b = p → ∀ β, v'.den β = v.den β) ∧ v'.wfB σ.length = true ∧ ih ((d, v', some (t, p)) :: fr) σ
        | _ => K (o :: rest) fr σ
    | .bad => K (o :: rest) fr σ
  | false => K (o :: rest) fr σ

/-- A region's operations from one on; ih: what follows. -/
def exLb (tt : TT) (ct : CT) (n : Nat) (gs stops : List Nat) (all : List Oper) (K : List Oper → Fr → List Ch → Prop) (o : Oper) (rest : List Oper) (ih : Fr → List Ch → Prop) (fr : Fr) (σ : List Ch) : Prop :=
    match o.dst with
    | none => match o.guard with
      | none => match evUpd tt fr σ o.op with
        | .upd i e cs => forceL (σ.set i (.blk e cs)) fun σ' => ih fr σ'
        | _ => match evG tt fr σ o.op (fun σ' => ih fr σ') with
          | some R => R
          | none => K (o :: rest) fr σ
      | some _ => K (o :: rest) fr σ
    | some d => match elemN (d + 100000) stops with
     | true => tellB tt n gs all K o rest ih d fr σ
     | false => match elemN d stops, canPut n gs d fr with
      | false, true => match guardI all gs fr o with
        | .no => match exOne tt ct fr σ o.op (fun v σ' => ih ((d, v, none) :: fr) σ') with
          | some R => R
          | none => K (o :: rest) fr σ
        | .yes t p b => match Nat.beq t d with
          | true => K (o :: rest) fr σ
          | false => match ev tt fr (some (t, p)) σ o.op with
            | .val v => match v.wfB σ.length with
              | true => ih ((d, v, some (t, p)) :: fr) σ
              | false => K (o :: rest) fr σ
            | _ => match evX tt fr (some (t, p)) (some (b, p)) σ o.op (fun v => ih ((d, v, some (t, p)) :: fr) σ) with
              | some R => R
              | none => match evC ct fr (some (t, p)) o.op with
                | some (q, v) => (b = p → q) ∧ ih ((d, v, some (t, p)) :: fr) σ
                | none => match look t fr with
                  | some (_, none) => match exOne tt ct (unlock t p fr) σ o.op (fun v σ' => ih ((d, v, none) :: unlock t p fr) σ') with
                    | some R => (b = p → R) ∧ (b = !p → ih ((d, .tup [], none) :: fr) σ)
                    | none => (b = p → K (o :: rest) (unlock t p fr) σ) ∧ (b = !p → ih ((d, .tup [], none) :: fr) σ)
                  | _ => match exOne tt ct ((t, .t (.s (.bool p)), none) :: unlock t p fr) σ o.op (fun v σ' => ih ((d, v, none) :: (t, .t (.s (.bool p)), none) :: unlock t p fr) σ') with
                    | some R => (b = p → R) ∧ (b = !p → ih ((d, .tup [], none) :: fr) σ)
                    | none => (b = p → K (o :: rest) ((t, .t (.s (.bool p)), none) :: unlock t p fr) σ) ∧ (b = !p → ih ((d, .tup [], none) :: fr) σ)
        | .bad => K (o :: rest) fr σ
      | _, _ => K (o :: rest) fr σ

noncomputable def exL (tt : TT) (ct : CT) (n : Nat) (gs stops : List Nat) (all : List Oper) (K : List Oper → Fr → List Ch → Prop) (l : List Oper) : Fr → List Ch → Prop :=
  List.rec (motive := fun _ => Fr → List Ch → Prop) (fun fr σ => K [] fr σ) (fun o rest ih fr σ => exLb tt ct n gs stops all K o rest ih fr σ) l

end Go.Sx

namespace Go.Sx
open Go

section
variable {X : Cx} {tt : TT} {ct : CT} {all rest : List Oper} {Q : Exit → Act → World → Prop} {fr : Fr} {σ : List Ch} {o : Oper} {d : Nat}

/-- A step, as the judgement has it. -/
theorem wpL_eff (hd : o.dst = some d) (hsp : d < X.n ∧ ∀ k v t p, (k, v, some (t, p)) ∈ fr → t ≠ d) (hg : ∀ β a w, Rep X β fr σ a w → Region.wanted o (yielded all.toArray a.tmps) = true)
    (hs : ∀ β a w, Rep X β fr σ a w → ∃ v σ' β' w', (execOp a.eval o).run X.P w = .ok (.value (v.den β')) w' ∧ Eff X.P (fun g => X.F g ∨ X.w0.heap.size ≤ g) β σ X.φ w v β' σ' w' ∧ WpL X all Q rest ((d, v, none) :: fr) σ') :
    WpL X all Q (o :: rest) fr σ := by
  refine ⟨fun β a w hr => ?_⟩
  obtain ⟨v, σ', β', w', hrun, he, hk⟩ := hs β a w hr
  refine wpList_val (hg β a w hr) hrun ?_
  rw [hd]
  refine hk.h β' _ _ ⟨hr.defers, by simpa [Act.put] using hr.size, ?_, ?_, he.sat, hr.same.trans he.same, fun i hi => (he.ext i (Nat.lt_of_lt_of_le hi hr.fits)).trans (hr.agree i hi), Nat.le_trans hr.fits he.len, ?_⟩
  · exact knows_put (Knows.ext hr.frwf he.ext hr.knows) (by rw [hr.size]; exact hsp.1) hsp.2 rfl
  · intro x hx
    rcases List.mem_cons.1 hx with rfl | hx
    · exact he.wf
    · exact FV.wf_mono he.len (hr.frwf x hx)
  · intro l c hc g hg
    rcases he.src l c hc g hg with h | h
    · exact h
    · exact .inr (Nat.le_trans hr.same.size h)

theorem rep_src {β : Nat → Bd} {a : Act} {w : World} (hr : Rep X β fr σ a w) : ∀ (l : Nat) (d : Ch), σ[l]? = some d → ∀ g, g ∈ d.rfoot (β l) → (X.F g ∨ X.w0.heap.size ≤ g) ∨ w.heap.size ≤ g :=
  fun l d hd g hg => .inl (hr.src l d hd g hg)

theorem look_unlock {t : Nat} {p : Bool} {d' : Nat} {v : FV} {g : Gd} : ∀ {fr : Fr}, look d' (unlock t p fr) = some (v, g) → (look d' fr = some (v, g)) ∨ (g = none ∧ look d' fr = some (v, some (t, p)))
  | [], h => by simp [unlock, look] at h
  | (e, u, g') :: r, h => by
    unfold unlock at h
    split at h
    · rename_i hm
      have := gmatch_eq hm
      subst this
      simp only [look] at h ⊢
      split at h
      · cases h; exact .inr ⟨rfl, rfl⟩
      · exact look_unlock h
    · simp only [look] at h ⊢
      split at h
      · cases h; exact .inl rfl
      · exact look_unlock h
theorem unlock_mem {t : Nat} {p : Bool} {e : Nat × FV × Gd} : ∀ {fr : Fr}, e ∈ unlock t p fr → ∃ g, (e.1, e.2.1, g) ∈ fr ∧ (e.2.2 = g ∨ e.2.2 = none)
  | [], h => by simp [unlock] at h
  | (d', u, g') :: r, h => by
    unfold unlock at h
    split at h
    · rcases List.mem_cons.1 h with rfl | h
      · exact ⟨g', by simp, .inr rfl⟩
      · obtain ⟨g, h1, h2⟩ := unlock_mem h; exact ⟨g, by simp [h1], h2⟩
    · rcases List.mem_cons.1 h with rfl | h
      · exact ⟨g', by simp, .inl rfl⟩
      · obtain ⟨g, h1, h2⟩ := unlock_mem h; exact ⟨g, by simp [h1], h2⟩

theorem rep_unlock {β : Nat → Bd} {a : Act} {w : World} (hr : Rep X β fr σ a w) {t : Nat} {p : Bool} (ht : a.tmps[t]? = some (.bool p)) : Rep X β (unlock t p fr) σ a w := by
  refine ⟨hr.defers, hr.size, ?_, ?_, hr.mem, hr.same, hr.agree, hr.fits, hr.src⟩
  · intro d' v g hl
    rcases look_unlock hl with h | ⟨rfl, h⟩
    · exact hr.knows d' v g h
    · exact (hr.knows d' v _ h).1 ht
  · intro e he
    obtain ⟨g, h1, _⟩ := unlock_mem he
    exact hr.frwf (e.1, e.2.1, g) h1

theorem WhenIn.unlock {gs : List Nat} {t : Nat} {p : Bool} (h : WhenIn gs fr) : WhenIn gs (Sx.unlock t p fr) := by
  intro k v t' p' hm
  obtain ⟨g, h1, h2⟩ := unlock_mem hm
  rcases h2 with h2 | h2
  · simp only at h1 h2; subst h2; exact h k v t' p' h1
  · simp at h2

theorem guardI_no {gs : List Nat} (h : guardI all gs fr o = .no) : o.guard = none := by
  unfold guardI at h
  split at h
  · assumption
  · split at h
    · split at h
      · split at h
        · cases h
        · split at h
          · split at h <;> cases h
          · cases h
      · cases h
    · cases h
theorem guardI_yes {gs : List Nat} {t : Nat} {p b : Bool} (h : guardI all gs fr o = .yes t p b) : ∃ j, o.guard = some (j, p) ∧ guardTmp all j = some t ∧ t ∈ gs ∧
    (∀ (β : Nat → Bd) (a : Act), Knows β fr a → (a.tmps[t]? = some (.bool p) ↔ b = p)) ∧ ∀ v, look t fr = some (v, none) → v = .t (.s (.bool b)) := by
  unfold guardI at h
  split at h
  · cases h
  · rename_i j p' hg
    split at h
    · rename_i t' ht
      split at h
      · rename_i he
        split at h
        · rename_i b' hl
          cases h
          refine ⟨j, hg, ht, elemN_true he, fun β a hk => ?_, fun v hv => ?_⟩
          · have := hk t _ _ hl
            simp only [FV.den, TV.den, SV.den] at this
            rw [this]; simp
          · rw [hl] at hv; cases hv; rfl
        · rename_i hno
          split at h
          · rename_i w b' hgc
            split at h
            · cases h
              refine ⟨j, hg, ht, elemN_true he, fun β a hk => ?_, fun v hv => ?_⟩
              · have hs := gcond_spec hk hgc
                cases w with
                | true => rw [hs.1 rfl]; simp
                | false => rw [hs.2 rfl]; simp [undef]
              · unfold gcond at hgc
                rw [hv] at hgc
                split at hgc
                · rename_i e
                  cases e
                  exact absurd hv (hno _)
                · rename_i e; cases e
                · cases hgc
            · cases h
              refine ⟨j, hg, ht, elemN_true he, fun β a hk => ?_, fun v hv => ?_⟩
              · have hs := gcond_spec hk hgc
                cases w with
                | true => rw [hs.1 rfl]; simp
                | false => rw [hs.2 rfl]; simp [undef]
              · unfold gcond at hgc
                rw [hv] at hgc
                split at hgc
                · rename_i e
                  cases e
                  exact absurd hv (hno _)
                · rename_i e; cases e
                · cases hgc
          · cases h
      · cases h
    · cases h

theorem wanted_iff {t : Nat} {p : Bool} {j : Nat} (hg : o.guard = some (j, p)) (ht : guardTmp all j = some t) (a : Act) : Region.wanted o (yielded all.toArray a.tmps) = true ↔ a.tmps[t]? = some (.bool p) := by
  unfold guardTmp at ht
  split at ht
  · rename_i oj hj
    simp only [Region.wanted, hg, yielded, List.getElem?_toArray, hj, ht, Option.bind_some]
    cases hq : a.tmps[t]? with
    | none => simp
    | some u => cases u <;> simp
  · cases ht

theorem pure_calls {P : Program} {f : FuncId} {cargs : List TV} {v : FV} (hc : Pure P f cargs v) (β : Nat → Bd) (w : World) :
    Calls P f (cargs.map (TV.den β)).toArray w fun e w' => (∃ β', e = .returned (v.den β')) ∧ Same w w' ∧ ∀ g, g < w.heap.size → w'.heap[g]? = w.heap[g]? := by
  let φ : Heap := (List.range w.heap.size).filterMap fun g => (w.heap[g]?).map fun o => (g, o)
  have hφ : ∀ g, g < w.heap.size → (g, w.heap[g]!) ∈ φ := by
    intro g hg
    simp only [φ, List.mem_filterMap, List.mem_range]
    exact ⟨g, hg, by simp [hg]⟩
  have hsat : Sat β [] φ w := by
    refine ⟨fun i j c d hc => by simp at hc, fun i c hc => by simp at hc, fun i c hc => by simp at hc, ?_, fun c hc => by simp at hc⟩
    intro p hp
    simp only [φ, List.mem_filterMap, List.mem_range, Option.map_eq_some_iff] at hp
    obtain ⟨g, _, o, ho, rfl⟩ := hp
    exact ho
  refine (hc.h β φ w hsat).mono ?_
  rintro e w' ⟨x, β', _, _, _, rfl, _, hs1, hsame, _⟩
  refine ⟨⟨β', rfl⟩, hsame, fun k hk => ?_⟩
  rw [hs1.frame _ (hφ k hk)]
  simp [hk]

theorem Sat.grown {β : Nat → Bd} {σ : List Ch} {φ : Heap} {w w' : World} (h : Sat β σ φ w) (hk : ∀ g, g < w.heap.size → w'.heap[g]? = w.heap[g]?) : Sat β σ φ w' := by
  refine ⟨h.disj, h.off, fun i c hc => Ch.sat_keep (h.sat i c hc) fun g hg => hk g (Ch.sat_rlt (h.sat i c hc) hg), fun p hp => ?_, h.wf⟩
  have h1 := h.frame p hp
  rw [hk p.1 (Array.getElem?_eq_some_iff.1 h1).1]; exact h1

/-- A reader is called. -/
theorem l_read {c : Call} {fx : Operand} {f : FuncId} {l : List TV} {args : List RA} {v : FV} (ho : o.op = .call c) (hcc : c.callee = .value fx) (hd : o.dst = some d)
    (hsp : d < X.n ∧ ∀ k v t p, (k, v, some (t, p)) ∈ fr → t ≠ d) (hg : guardYes all fr o) (hfx : opd fr none fx = some (.clo (.func f) [] [])) (hl : opds fr none c.args.toList = some l) (hr : rasOf tt σ l c.argTypes.toList = some args)
    (hcal : Sx.Callee X.P f) (hrd : RdS X.P f args v) (hv : v.wfB 0 = true) (h : WpL X all Q rest ((d, v, none) :: fr) σ) : WpL X all Q (o :: rest) fr σ := by
  refine ⟨fun β a w hrep => ?_⟩
  have hfx' := opd_sound (g := none) hrep.knows trivial hfx
  simp only [TV.den] at hfx'
  have hl' := opds_sound (g := none) hrep.knows trivial hl
  refine wpList_enter (guardYes_wanted hrep hg) (call_run hcal ho hcc hfx') ?_
  have hargs : (([] : List Value).toArray ++ c.args.map a.eval ++ ([] : List Value).toArray) = (l.map (TV.den β)).toArray := by
    apply Array.ext'
    simp [hl']
  simp only [List.map_nil]
  rw [hargs]
  refine (reader_calls hrd hrep.mem hr).mono ?_
  rintro e w' ⟨⟨β', rfl⟩, hsame, hkeep⟩
  refine ⟨_, rfl, ?_⟩
  have hden : v.den β' = v.den β := FV.den_ext (m := 0) (fun i hi => by omega) (FV.wfB_spec hv)
  rw [hden, hd]
  refine h.h β _ w' ⟨hrep.defers, by simpa [Act.put] using hrep.size, ?_, ?_, hrep.mem.grown hkeep, hrep.same.trans hsame, hrep.agree, hrep.fits, hrep.src⟩
  · exact knows_put hrep.knows (by rw [hrep.size]; exact hsp.1) hsp.2 rfl
  · intro x hx
    rcases List.mem_cons.1 hx with rfl | hx
    · exact FV.wf_mono (Nat.zero_le _) (FV.wfB_spec hv)
    · exact hrep.frwf x hx

/-- A function is called that may change the chunks. -/
theorem l_st {c : Call} {fx : Operand} {f : FuncId} {t : TV} {x : List TV} {y : List SV} {l : List TV} (ho : o.op = .call c) (hcc : c.callee = .value fx) (hd : o.dst = some d)
    (hsp : d < X.n ∧ ∀ k v t p, (k, v, some (t, p)) ∈ fr → t ≠ d) (hg : guardYes all fr o) (hfx : opd fr none fx = some t) (hclo : asClo t = some (f, x, y)) (hl : opds fr none c.args.toList = some l)
    (hcal : Sx.Callee X.P f) {k : FV → List Ch → Prop} (hc : CallS X.P f (x ++ (l ++ y.map .s)) σ k) (hk0 : ∀ v σ', k v σ' → WpL X all Q rest ((d, v, none) :: fr) σ') : WpL X all Q (o :: rest) fr σ := by
  refine ⟨fun β a w hrep => ?_⟩
  have hfx' := opd_sound (g := none) hrep.knows trivial hfx
  rw [asClo_den hclo] at hfx'
  have hl' := opds_sound (g := none) hrep.knows trivial hl
  refine wpList_enter (guardYes_wanted hrep hg) (call_run hcal ho hcc hfx') ?_
  have hargs : ((x.map (TV.den β)).toArray ++ c.args.map a.eval ++ (y.map (SV.den β)).toArray) = ((x ++ (l ++ y.map TV.s)).map (TV.den β)).toArray := by
    apply Array.ext'
    have e1 : ∀ (q : List SV), (q.map TV.s).map (TV.den β) = q.map (SV.den β) := fun q => by rw [List.map_map]; exact List.map_congr_left fun _ _ => rfl
    simp only [Array.toList_append, Array.toList_map, hl', List.map_append, e1, List.append_assoc]
  rw [hargs]
  refine (hc.h β X.φ w hrep.mem).mono ?_
  rintro e w' ⟨⟨v, σ'⟩, β', hk, hext, hlen, rfl, hwf, hs, hsame, hsrc⟩
  refine ⟨_, rfl, ?_⟩
  rw [hd]
  refine (hk0 v σ' hk).h β' _ w' ⟨hrep.defers, by simpa [Act.put] using hrep.size, ?_, ?_, hs, hrep.same.trans hsame, fun i hi => (hext i (Nat.lt_of_lt_of_le hi hrep.fits)).trans (hrep.agree i hi), Nat.le_trans hrep.fits hlen, ?_⟩
  · exact knows_put (Knows.ext hrep.frwf hext hrep.knows) (by rw [hrep.size]; exact hsp.1) hsp.2 rfl
  · intro q hq
    rcases List.mem_cons.1 hq with rfl | hq
    · exact hwf
    · exact FV.wf_mono hlen (hrep.frwf q hq)
  · intro j c hj g hg
    rcases hsrc j c hj g hg with ⟨i, c', hi, hgi⟩ | hge
    · exact hrep.src i c' hi g hgi
    · exact .inr (Nat.le_trans hrep.same.size hge)

/-- One operation without a guard (or under one that holds). -/
theorem exOne_sound (htt : TTok X.P tt) (hct : CTok X.P ct) (hd : o.dst = some d) (hsp : d < X.n ∧ ∀ k v t p, (k, v, some (t, p)) ∈ fr → t ≠ d) (hput : canPut X.n (gsOf all all) d fr = true) (hwhen : WhenIn (gsOf all all) fr)
    (hg : guardYes all fr o) {k : FV → List Ch → Prop} (hk0 : ∀ v σ', k v σ' → WpL X all Q rest ((d, v, none) :: fr) σ') {R : Prop} (h : exOne tt ct fr σ o.op k = some R) (hR : R) : WpL X all Q (o :: rest) fr σ := by
  have hgw : ∀ β a w, Rep X β fr σ a w → Region.wanted o (yielded all.toArray a.tmps) = true := fun β a w hr => guardYes_wanted hr hg
  unfold exOne at h
  split at h
  · -- a new block
    rename_i e cs hnew
    cases h
    rw [lenK_eq, forceL_eq] at hR
    refine wpL_eff hd hsp hgw fun β a w hr => ?_
    obtain ⟨hrun, hcw⟩ := evNew_sound (β := β) (w := w) htt hr.knows hr.frwf hnew
    obtain ⟨β', hb, hbn, hsat⟩ := hr.mem.alloc (.blk e cs) (.cells (cs.map (SV.den β)).toArray e) rfl
      (fun x hx => SV.wf_mono (Nat.le_succ _) (hcw x hx)) (fun β' hb _ => by
        simp only [Ch.sat]
        rw [SV.map_ext hb hcw]
        exact ⟨trivial, heap_alloc_new w _⟩)
    refine ⟨_, _, β', _, ?_, ⟨hb, by simp, hsat, Same.alloc w _, by simp [FV.wf, TV.wf, SV.wf], ?_⟩, hk0 _ _ hR⟩
    · rw [hrun]; simp [FV.den, TV.den, SV.den, hbn]
    · intro l c hc g hgm
      rcases append_get hc with ⟨hl', hd'⟩ | ⟨rfl, rfl⟩
      · rw [hb l hl'] at hgm; exact .inl (hr.src l c hd' g hgm)
      · rw [hbn] at hgm; simp [Ch.rfoot, Ch.foot] at hgm; exact .inr (by omega)
  · split at h
    · rename_i v hv
      cases h
      refine wpL_eff hd hsp hgw fun β a w hr => ?_
      obtain ⟨hrun, hvw⟩ := ev_val (g := none) htt hr.knows trivial hr.frwf hr.mem hv
      exact ⟨v, σ, β, w, hrun, eff_same hr.mem (rep_src hr) hvw, hk0 _ _ hR⟩
    · split at h
      · rename_i R' hx
        cases h
        refine wpL_eff hd hsp hgw fun β a w hr => ?_
        obtain ⟨v, hk, hvw, hrun⟩ := evX_sound (g := none) (gb := none) (P := X.P) htt hr.knows trivial hr.frwf hr.mem hx hR
        exact ⟨v, σ, β, w, hrun trivial, eff_same hr.mem (rep_src hr) (hvw _ (Nat.le_refl _)), hk0 _ _ hk⟩
      · split at h
        · rename_i R' hx
          cases h
          refine wpL_eff hd hsp hgw fun β a w hr => ?_
          obtain ⟨v, σ', β', w', hk, hrun, he⟩ := evF_sound htt hr.knows hr.frwf hr.mem (rep_src hr) hx hR
          exact ⟨v, σ', β', w', hrun, he, hk0 _ _ hk⟩
        · split at h
          · rename_i R' hx
            cases h
            obtain ⟨v, hk, hv, c, fx, f, l, args, hop, hcal, hfx, hl, hr, hcl, hrd⟩ := evR_sound hct hx hR
            exact l_read hop hcal hd hsp hg hfx hl hr hcl (hrd fun p hp => hp) hv (hk0 _ _ hk)
          · split at h
            · rename_i p v hc
              cases h
              unfold evC at hc
              split at hc
              · rename_i c hop
                split at hc
                · rename_i fx hcal
                  split at hc
                  · rename_i f hfx
                    split at hc
                    · rename_i s l hs hl
                      split at hc
                      · rename_i p' v' hno hsl
                        split at hc
                        · rename_i hnv
                          cases hc
                          have hce := clook_ok hct hs
                          obtain ⟨hp, hk⟩ := hR
                          have hpure := hce.ok l _ _ hsl hp
                          exact l_pure' hpure hce.cal hop hcal hd hg hput hwhen hfx hl hno hnv (hk0 _ _ hk)
                        · cases hc
                      · cases hc
                    · cases hc
                  · cases hc
                · cases hc
              · cases hc
            · split at h
              · rename_i R' hx
                cases h
                refine wpL_eff hd hsp hgw fun β a w hr => ?_
                obtain ⟨v, hk, hvw, hrun⟩ := evW_sound (P := X.P) htt hr.knows hr.frwf hx hR
                exact ⟨v, σ, β, w, hrun w, eff_same hr.mem (rep_src hr) hvw, hk0 _ _ hk⟩
              · split at h
                · rename_i R' hx
                  cases h
                  refine wpL_eff hd hsp hgw fun β a w hr => ?_
                  obtain ⟨v, σ', β', w', hk, hrun, he⟩ := evM_sound htt hr.knows hr.mem (rep_src hr) hx hR
                  exact ⟨v, σ', β', w', hrun, he, hk0 _ _ hk⟩
                · obtain ⟨c, fx, t, f, a, b, l, hop, hcal, hfx, hclo, hl, hcl, hcs⟩ := evS_sound hct h hR
                  exact l_st hop hcal hd hsp hg hfx hclo hl hcl hcs hk0
  where
  l_pure' {c : Call} {fx : Operand} {f : FuncId} {d : Nat} {cargs : List TV} {v : FV}
    (hc : Pure X.P f cargs v) (hcal : Sx.Callee X.P f)
    (ho : o.op = .call c) (hcc : c.callee = .value fx) (hd : o.dst = some d) (hg : guardYes all fr o) (hput : canPut X.n (gsOf all all) d fr = true) (hwhen : WhenIn (gsOf all all) fr)
    (hfx : opd fr none fx = some (.clo (.func f) [] [])) (hl : opds fr none c.args.toList = some cargs)
    (hno : allB (TV.wfB 0) cargs = true) (hnv : v.wfB 0 = true)
    (h : WpL X all Q rest ((d, v, none) :: fr) σ) : WpL X all Q (o :: rest) fr σ := by
    have rnS : ∀ (ρ : Nat → Nat) (q : SV), q.wfB 0 = true → q.rn ρ = q := by
      intro ρ q hq; cases q <;> first | rfl | (simp [SV.wfB, Nat.blt] at hq)
    have rnT : ∀ (ρ : Nat → Nat) (q : TV), q.wfB 0 = true → q.rn ρ = q := by
      intro ρ q hq
      cases q with
      | s q => simp only [TV.rn, rnS ρ q hq]
      | agg l =>
        simp only [TV.rn]
        congr 1
        exact (List.map_congr_left fun x hx => rnS ρ x (allB_spec hq x hx)).trans (List.map_id' l)
      | bnd f l =>
        simp only [TV.rn]
        congr 1
        exact (List.map_congr_left fun x hx => rnS ρ x (allB_spec hq x hx)).trans (List.map_id' l)
      | clo f a b =>
        simp only [TV.wfB] at hq
        split at hq
        · rename_i ha
          simp only [TV.rn]
          congr 1
          · exact (List.map_congr_left fun x hx => rnS ρ x (allB_spec ha x hx)).trans (List.map_id' a)
          · exact (List.map_congr_left fun x hx => rnS ρ x (allB_spec hq x hx)).trans (List.map_id' b)
        · cases hq
    have rnF : ∀ (ρ : Nat → Nat), v.rn ρ = v := by
      intro ρ
      cases v with
      | t q => simp only [FV.rn, rnT ρ q hnv]
      | tup l =>
        simp only [FV.rn]
        congr 1
        exact (List.map_congr_left fun x hx => rnT ρ x (allB_spec hnv x hx)).trans (List.map_id' l)
    refine l_call hc hcal [] ho hcc hd hg hput hwhen hfx hl ?_ rfl rfl rfl ?_
    · simp only [List.map_nil, List.nil_append, List.append_nil]
      exact ((List.map_congr_left fun x hx => rnT _ x (allB_spec hno x hx)).trans (List.map_id' cargs)).symm
    · intro _ _
      rw [rnF]
      simpa [merged, putBack] using h

/-- A guarded operation that is not wanted. -/
theorem wpL_skip {t : Nat} {p : Bool} {j : Nat} {v : FV} {g : Gd} (hg : o.guard = some (j, p)) (ht : guardTmp all j = some t) (hnot : ∀ β a w, Rep X β fr σ a w → a.tmps[t]? ≠ some (.bool p)) (hd : o.dst = some d)
    (hsp : d < X.n ∧ ∀ k v t p, (k, v, some (t, p)) ∈ fr → t ≠ d) (hv : ∀ m, σ.length ≤ m → v.wf m) (htd : (g = none ∧ v = .tup []) ∨ (g = some (t, p) ∧ t ≠ d))
    (h : WpL X all Q rest ((d, v, g) :: fr) σ) : WpL X all Q (o :: rest) fr σ := by
  refine ⟨fun β a w hr => ?_⟩
  have hn := hnot β a w hr
  have hnw : Region.wanted o (yielded all.toArray a.tmps) = false := by
    cases hw : Region.wanted o (yielded all.toArray a.tmps) with
    | false => rfl
    | true => exact absurd ((wanted_iff hg ht a).1 hw) hn
  refine wpList_skip hnw ?_
  rw [hd]
  refine h.h β _ _ ⟨hr.defers, by simpa [Act.put] using hr.size, ?_, ?_, hr.mem, hr.same, hr.agree, hr.fits, hr.src⟩
  · refine knows_put hr.knows (by rw [hr.size]; exact hsp.1) hsp.2 ?_
    rcases htd with ⟨rfl, rfl⟩ | ⟨rfl, htd⟩
    · rfl
    · exact ⟨htd, fun hp => absurd hp hn, fun _ => rfl⟩
  · intro x hx
    rcases List.mem_cons.1 hx with rfl | hx
    · exact hv _ (Nat.le_refl _)
    · exact hr.frwf x hx

/-- A guarded value: known where the guard holds. -/
theorem wpL_when {t : Nat} {p : Bool} {j : Nat} {v : FV} (hg : o.guard = some (j, p)) (ht : guardTmp all j = some t) (hd : o.dst = some d)
    (hsp : d < X.n ∧ ∀ k v t p, (k, v, some (t, p)) ∈ fr → t ≠ d) (hv : ∀ m, σ.length ≤ m → v.wf m) (htd : t ≠ d)
    (hrun : ∀ β a w, Rep X β fr σ a w → a.tmps[t]? = some (.bool p) → (∀ m, σ.length ≤ m → v.wf m) → ∃ w', opW X.fe X.P o a w (fun a' w' => a' = a.put o.dst (v.den β) ∧ Sat β σ X.φ w' ∧ Same w w') Q ∧ w' = w)
    (h : WpL X all Q rest ((d, v, some (t, p)) :: fr) σ) : WpL X all Q (o :: rest) fr σ := by
  refine ⟨fun β a w hr => ?_⟩
  by_cases hu : a.tmps[t]? = some (.bool p)
  · refine wpList_op ((wanted_iff hg ht a).2 hu) ?_
    obtain ⟨_, hw, _⟩ := hrun β a w hr hu hv
    refine opW_mono ?_ hw
    rintro a' w' ⟨rfl, hs, hsame⟩
    rw [hd]
    refine h.h β _ w' ⟨hr.defers, by simpa [Act.put] using hr.size, ?_, ?_, hs, hr.same.trans hsame, hr.agree, hr.fits, hr.src⟩
    · exact knows_put hr.knows (by rw [hr.size]; exact hsp.1) hsp.2 ⟨htd, fun _ => rfl, fun hn => absurd hu hn⟩
    · intro x hx
      rcases List.mem_cons.1 hx with rfl | hx
      · exact hv _ (Nat.le_refl _)
      · exact hr.frwf x hx
  · have hnw : Region.wanted o (yielded all.toArray a.tmps) = false := by
      cases hw : Region.wanted o (yielded all.toArray a.tmps) with
      | false => rfl
      | true => exact absurd ((wanted_iff hg ht a).1 hw) hu
    refine wpList_skip hnw ?_
    rw [hd]
    refine h.h β _ _ ⟨hr.defers, by simpa [Act.put] using hr.size, ?_, ?_, hr.mem, hr.same, hr.agree, hr.fits, hr.src⟩
    · exact knows_put hr.knows (by rw [hr.size]; exact hsp.1) hsp.2 ⟨htd, fun hp => absurd hp hu, fun _ => rfl⟩
    · intro x hx
      rcases List.mem_cons.1 hx with rfl | hx
      · exact hv _ (Nat.le_refl _)
      · exact hr.frwf x hx

/-- A plain value, as wpL_when asks. -/
theorem when_val {t : Nat} {p : Bool} {v : FV} (hrun : ∀ β a w, Rep X β fr σ a w → a.tmps[t]? = some (.bool p) → (execOp a.eval o).run X.P w = .ok (.value (v.den β)) w) :
    ∀ β a w, Rep X β fr σ a w → a.tmps[t]? = some (.bool p) → (∀ m, σ.length ≤ m → v.wf m) → ∃ w', opW X.fe X.P o a w (fun a' w' => a' = a.put o.dst (v.den β) ∧ Sat β σ X.φ w' ∧ Same w w') Q ∧ w' = w := by
  intro β a w hr hu _
  refine ⟨w, ?_, rfl⟩
  exact opW_val (hrun β a w hr hu) ⟨rfl, hr.mem, Same.refl w⟩

/-- A call of a function that only computes, as wpL_when asks. -/
theorem when_call {t : Nat} {p : Bool} {c : Call} {fx : Operand} {f : FuncId} {cargs : List TV} {v : FV} (hc : Pure X.P f cargs v) (hcal : Sx.Callee X.P f) (ho : o.op = .call c) (hcc : c.callee = .value fx)
    (hfx : opd fr (some (t, p)) fx = some (.clo (.func f) [] [])) (hl : opds fr (some (t, p)) c.args.toList = some cargs) (hnv : v.wfB 0 = true) :
    ∀ β a w, Rep X β fr σ a w → a.tmps[t]? = some (.bool p) → (∀ m, σ.length ≤ m → v.wf m) → ∃ w', opW X.fe X.P o a w (fun a' w' => a' = a.put o.dst (v.den β) ∧ Sat β σ X.φ w' ∧ Same w w') Q ∧ w' = w := by
  intro β a w hr hu _
  refine ⟨w, ?_, rfl⟩
  have hfx' := opd_sound hr.knows (g := some (t, p)) hu hfx
  simp only [TV.den] at hfx'
  have hl' := opds_sound hr.knows (g := some (t, p)) hu hl
  refine opW_enter (call_run hcal ho hcc hfx') ?_
  have hargs : (([] : List Value).toArray ++ c.args.map a.eval ++ ([] : List Value).toArray) = (cargs.map (TV.den β)).toArray := by
    apply Array.ext'
    simp [hl']
  simp only [List.map_nil]
  rw [hargs]
  refine (pure_calls hc β w).mono ?_
  rintro e w' ⟨⟨β', rfl⟩, hsame, hkeep⟩
  refine ⟨_, rfl, ?_, hr.mem.grown hkeep, hsame⟩
  have hden : v.den β' = v.den β := FV.den_ext (m := 0) (fun i hi => by omega) (FV.wfB_spec hnv)
  rw [hden]

end
end Go.Sx

namespace Go.Sx
open Go

section
variable {X : Cx} {tt : TT} {ct : CT} {all : List Oper} {Q : Exit → Act → World → Prop}

theorem gmatch_self (t : Nat) (p : Bool) : gmatch (some (t, p)) t p = true := by
  simp only [gmatch, Nat.beq_refl]; cases p <;> rfl

theorem look_unlock' {t : Nat} {p : Bool} {d : Nat} {v : FV} {g : Gd} : ∀ {fr : Fr}, look d fr = some (v, g) → look d (unlock t p fr) = some (v, cond (gmatch g t p) none g)
  | [], h => by simp [look] at h
  | (e, u, g') :: r, h => by
    simp only [look] at h
    unfold unlock
    split at h
    · rename_i hb
      cases h
      split
      · rename_i hm; simp only [look, hb, hm, cond_true]
      · rename_i hm; simp only [look, hb, hm, cond_false]
    · rename_i hb
      have ih := look_unlock' (t := t) (p := p) h
      split <;> simp only [look, hb, ih]

theorem noWhen_unlock {d t : Nat} {p : Bool} : ∀ {fr : Fr}, noWhen d fr = true → noWhen d (unlock t p fr) = true
  | [], _ => rfl
  | (e, u, none) :: r, h => by
    simp only [noWhen] at h
    have ih := noWhen_unlock (t := t) (p := p) h
    simp only [unlock, gmatch, noWhen, ih]
  | (e, u, some (t', p')) :: r, h => by
    simp only [noWhen] at h
    split at h
    · cases h
    · rename_i hb
      have ih := noWhen_unlock (t := t) (p := p) h
      unfold unlock
      split
      · simp only [noWhen, ih]
      · simp only [noWhen, hb, ih]
theorem canPut_unlock {n : Nat} {gs : List Nat} {d t : Nat} {p : Bool} {fr : Fr} (h : canPut n gs d fr = true) : canPut n gs d (unlock t p fr) = true := by
  unfold canPut at h ⊢
  split at h
  · split at h
    · exact noWhen_unlock h
    · rfl
  · cases h
theorem unlock_none {t : Nat} {p : Bool} {d : Nat} {v : FV} {fr : Fr} (h : look d fr = some (v, none)) : look d (unlock t p fr) = some (v, none) := by
  rw [look_unlock' h]; rfl
theorem unlock_opd {t : Nat} {p : Bool} {fr : Fr} {x : Operand} {v : TV} (h : opd fr (some (t, p)) x = some v) : opd (unlock t p fr) none x = some v := by
  cases x with
  | tmp d =>
    simp only [opd] at h ⊢
    split at h
    · rename_i u hl; cases h; rw [unlock_none hl]
    · rename_i u t' p' hl
      split at h
      · rename_i hm
        cases h
        have := gmatch_eq hm
        cases this
        rw [look_unlock' hl, gmatch_self]; rfl
      · cases h
    · cases h
  | const c => exact h
  | func f => exact h
  | global q => simp [opd] at h
theorem unlock_opds {t : Nat} {p : Bool} {fr : Fr} : ∀ {l : List Operand} {r : List TV}, opds fr (some (t, p)) l = some r → opds (unlock t p fr) none l = some r
  | [], r, h => h
  | x :: l, r, h => by
    simp only [opds] at h ⊢
    split at h
    · rename_i v hv
      split at h
      · rename_i r' hr; cases h; rw [unlock_opd hv, unlock_opds hr]
      · cases h
    · cases h
theorem unlock_put {n d t : Nat} {p : Bool} {fr : Fr} (h : d < n ∧ ∀ k v t p, (k, v, some (t, p)) ∈ fr → t ≠ d) : d < n ∧ ∀ k v t' p', (k, v, some (t', p')) ∈ unlock t p fr → t' ≠ d := by
  refine ⟨h.1, fun k v t' p' hm => ?_⟩
  obtain ⟨g, h1, h2⟩ := unlock_mem hm
  rcases h2 with h2 | h2
  · simp only at h1 h2; subst h2; exact h.2 k v t' p' h1
  · simp at h2

theorem tellB_sound (htt : TTok X.P tt) {o : Oper} {rest : List Oper} {d : Nat} {K : List Oper → Fr → List Ch → Prop} (hK : ∀ l fr σ, WhenIn (gsOf all all) fr → K l fr σ → WpL X all Q l fr σ) (hd : o.dst = some d)
    {ih : Fr → List Ch → Prop} (hih : ∀ fr σ, WhenIn (gsOf all all) fr → ih fr σ → WpL X all Q rest fr σ) {fr : Fr} {σ : List Ch} (hw : WhenIn (gsOf all all) fr)
    (h : tellB tt X.n (gsOf all all) all K o rest ih d fr σ) : WpL X all Q (o :: rest) fr σ := by
  unfold tellB at h
  split at h
  · rename_i hcp
    have hsp := canPut_spec hw hcp
    split at h
    · rename_i hgi
      have hgy : guardYes all fr o := by unfold guardYes; rw [guardI_no hgi]; trivial
      split at h
      · rename_i v hv
        obtain ⟨v', hvv, hvw, hk⟩ := h
        refine wpL_eff hd hsp (fun β a w hr => guardYes_wanted hr hgy) fun β a w hr => ?_
        obtain ⟨hrun, _⟩ := ev_val (g := none) htt hr.knows trivial hr.frwf hr.mem hv
        rw [← hvv β] at hrun
        exact ⟨v', σ, β, w, hrun, eff_same hr.mem (rep_src hr) (FV.wfB_spec hvw), hih _ _ (hw.cons (fun _ _ h => by cases h)) hk⟩
      · exact hK _ _ _ hw h
    · rename_i t p b hgi
      obtain ⟨j, hg, ht, htg, hiff, hplain⟩ := guardI_yes hgi
      split at h
      · exact hK _ _ _ hw h
      · rename_i htd0
        have htd : t ≠ d := fun e => by subst e; rw [Nat.beq_refl] at htd0; cases htd0
        split at h
        · rename_i v hv
          obtain ⟨v', hvv, hvw, hk⟩ := h
          refine wpL_when hg ht hd hsp (fun m hm => FV.wf_mono hm (FV.wfB_spec hvw)) htd (when_val fun β a w hr hu => ?_) (hih _ _ (hw.cons (fun _ _ h => by cases h; exact htg)) hk)
          have h1 := (ev_val (g := some (t, p)) htt hr.knows hu hr.frwf hr.mem hv).1
          rw [← hvv ((hiff β a hr.knows).1 hu) β] at h1
          exact h1
        · exact hK _ _ _ hw h
    · exact hK _ _ _ hw h
  · exact hK _ _ _ hw h

theorem exL_sound (htt : TTok X.P tt) (hct : CTok X.P ct) {stops : List Nat} {K : List Oper → Fr → List Ch → Prop} (hK : ∀ l fr σ, WhenIn (gsOf all all) fr → K l fr σ → WpL X all Q l fr σ) :
    ∀ (l : List Oper) (fr : Fr) (σ : List Ch), WhenIn (gsOf all all) fr → exL tt ct X.n (gsOf all all) stops all K l fr σ → WpL X all Q l fr σ
  | [], fr, σ, hw, h => hK _ _ _ hw h
  | o :: rest, fr, σ, hw, h => by
    have ih := exL_sound htt hct (stops := stops) hK rest
    replace h : exLb tt ct X.n (gsOf all all) stops all K o rest (exL tt ct X.n (gsOf all all) stops all K rest) fr σ := h
    unfold exLb at h
    split at h
    · rename_i hd
      split at h
      · rename_i hgd
        split at h
        · rename_i i e cs hup
          rw [forceL_eq] at h
          refine ⟨fun β a w hr => ?_⟩
          obtain ⟨w', hrun, hs, hsame⟩ := evUpd_sound htt hr.knows hr.frwf hr.mem hup
          refine wpList_skipd (by simp [Region.wanted, hgd]) hrun ?_
          rw [hd]
          have hsrc : ∀ (l : Nat) (d : Ch), (σ.set i (.blk e cs))[l]? = some d → ∀ g, g ∈ d.rfoot (β l) → X.F g ∨ X.w0.heap.size ≤ g := by
            intro l d hld g hg
            by_cases hil : i = l
            · subst hil
              have hlt : i < σ.length := by have := (List.getElem?_eq_some_iff.1 hld).1; simpa using this
              rw [List.getElem?_set_self hlt] at hld
              cases hld
              simp only [Ch.rfoot, Ch.foot, List.mem_singleton] at hg
              subst hg
              exact hr.src i _ (evUpd_blk hup).choose_spec.choose_spec _ (by simp [Ch.rfoot, Ch.foot])
            · rw [List.getElem?_set_ne hil] at hld
              exact hr.src l d hld g hg
          exact (ih fr _ hw h).h β a w' ⟨hr.defers, hr.size, hr.knows, by simpa using hr.frwf, hs, hr.same.trans hsame, hr.agree, by simpa using hr.fits, hsrc⟩
        · split at h
          · rename_i R hg
            refine ⟨fun β a w hr => ?_⟩
            obtain ⟨σ', w', hk, hrun, hs, hsame, hlen, hsrc⟩ := evG_sound htt hr.knows hr.frwf hr.mem hg h
            refine wpList_skipd (by simp [Region.wanted, hgd]) hrun ?_
            rw [hd]
            refine (ih fr _ hw hk).h β a w' ⟨hr.defers, hr.size, hr.knows, by rw [hlen]; exact hr.frwf, hs, hr.same.trans hsame, hr.agree, by rw [hlen]; exact hr.fits, ?_⟩
            intro l d hl g hg
            obtain ⟨l', d', h1, h2⟩ := hsrc l d hl g hg
            exact hr.src l' d' h1 g h2
          · exact hK _ _ _ hw h
      · exact hK _ _ _ hw h
    · rename_i d hd
      split at h
      · exact tellB_sound htt hK hd ih hw h
      split at h
      · rename_i hst hcp
        have hsp := canPut_spec hw hcp
        have wn : ∀ v, WhenIn (gsOf all all) ((d, v, none) :: fr) := fun v => hw.cons (fun _ _ h => by cases h)
        split at h
        · rename_i hgi
          have hgy : guardYes all fr o := by unfold guardYes; rw [guardI_no hgi]; trivial
          split at h
          · rename_i R hR
            exact exOne_sound htt hct hd hsp hcp hw hgy (fun v σ' hk => ih _ _ (wn v) hk) hR h
          · exact hK _ _ _ hw h
        · rename_i t p b hgi
          obtain ⟨j, hg, ht, htg, hiff, hplain⟩ := guardI_yes hgi
          have hnot : ¬ b = p → ∀ β a w, Rep X β fr σ a w → a.tmps[t]? ≠ some (.bool p) := fun hbp β a w hr he => hbp ((hiff β a hr.knows).1 he)
          split at h
          · exact hK _ _ _ hw h
          · rename_i htd0
            have htd : t ≠ d := fun e => by subst e; rw [Nat.beq_refl] at htd0; cases htd0
            have wg : ∀ v, WhenIn (gsOf all all) ((d, v, some (t, p)) :: fr) := fun v => hw.cons (fun _ _ h => by cases h; exact htg)
            split at h
            · rename_i v hv
              split at h
              · rename_i hvw
                exact wpL_when hg ht hd hsp (fun m hm => FV.wf_mono hm (FV.wfB_spec hvw)) htd (when_val fun β a w hr hu => (ev_val (g := some (t, p)) htt hr.knows hu hr.frwf hr.mem hv).1) (ih _ _ (wg v) h)
              · exact hK _ _ _ hw h
            · split at h
              · rename_i R hx
                refine ⟨fun β a w hr => ?_⟩
                by_cases hu : a.tmps[t]? = some (.bool p)
                · obtain ⟨v, hk, hvw, hrun⟩ := evX_sound (g := some (t, p)) (gb := some (b, p)) (P := X.P) htt hr.knows ⟨rfl, fun hp => (hiff β a hr.knows).1 hp⟩ hr.frwf hr.mem hx h
                  refine wpList_val ((wanted_iff hg ht a).2 hu) (hrun hu) ?_
                  rw [hd]
                  refine (ih _ _ (wg v) hk).h β _ _ ⟨hr.defers, by simpa [Act.put] using hr.size, ?_, ?_, hr.mem, hr.same, hr.agree, hr.fits, hr.src⟩
                  · exact knows_put hr.knows (by rw [hr.size]; exact hsp.1) hsp.2 ⟨htd, fun _ => rfl, fun hn => absurd hu hn⟩
                  · intro x hx
                    rcases List.mem_cons.1 hx with rfl | hx
                    · exact hvw _ (Nat.le_refl _)
                    · exact hr.frwf x hx
                · -- not wanted
                  obtain ⟨v, hk, hvw, _⟩ := evX_sound (g := some (t, p)) (gb := some (b, p)) (P := X.P) htt hr.knows ⟨rfl, fun hp => (hiff β a hr.knows).1 hp⟩ hr.frwf hr.mem hx h
                  have hnw : Region.wanted o (yielded all.toArray a.tmps) = false := by
                    cases hww : Region.wanted o (yielded all.toArray a.tmps) with
                    | false => rfl
                    | true => exact absurd ((wanted_iff hg ht a).1 hww) hu
                  refine wpList_skip hnw ?_
                  rw [hd]
                  refine (ih _ _ (wg v) hk).h β _ _ ⟨hr.defers, by simpa [Act.put] using hr.size, ?_, ?_, hr.mem, hr.same, hr.agree, hr.fits, hr.src⟩
                  · exact knows_put hr.knows (by rw [hr.size]; exact hsp.1) hsp.2 ⟨htd, fun hp => absurd hp hu, fun _ => rfl⟩
                  · intro x hx
                    rcases List.mem_cons.1 hx with rfl | hx
                    · exact hvw _ (Nat.le_refl _)
                    · exact hr.frwf x hx
              · split at h
                · rename_i q v hc
                  obtain ⟨hq, hk⟩ := h
                  have hk' := ih _ _ (wg v) hk
                  unfold evC at hc
                  split at hc
                  · rename_i c hop
                    split at hc
                    · rename_i fx hcal
                      split at hc
                      · rename_i f hfx
                        split at hc
                        · rename_i s l hs hl
                          split at hc
                          · rename_i p' v' hno hsl
                            split at hc
                            · rename_i hnv
                              cases hc
                              have hce : CEok X.P f s := clook_ok hct hs
                              have hvv : ∀ m, σ.length ≤ m → v.wf m := fun m _ => FV.wf_mono (Nat.zero_le _) (FV.wfB_spec hnv)
                              by_cases hbp : b = p
                              · exact wpL_when hg ht hd hsp hvv htd (when_call (hce.ok l _ _ hsl (hq hbp)) hce.cal hop hcal hfx hl hnv) hk'
                              · exact wpL_skip hg ht (hnot hbp) hd hsp hvv (.inr ⟨rfl, htd⟩) hk'
                            · cases hc
                          · cases hc
                        · cases hc
                      · cases hc
                    · cases hc
                  · cases hc
                · split at h
                  · rename_i v0 hlk
                    have hb := hplain v0 hlk
                    subst hb
                    split at h
                    · rename_i R hR
                      by_cases hbp : b = p
                      · subst hbp
                        have hgy : guardYes all (unlock t b fr) o := by
                          unfold guardYes; rw [hg]
                          exact ⟨t, b, ht, unlock_none hlk, rfl⟩
                        have h1 := exOne_sound htt hct (rest := rest) (Q := Q) hd (unlock_put hsp) (canPut_unlock hcp) hw.unlock hgy (fun v σ' hk => ih _ _ (hw.unlock.cons (fun _ _ h => by cases h)) hk) hR (h.1 rfl)
                        refine ⟨fun β a w hr => ?_⟩
                        have hkk := hr.knows t _ _ hlk
                        simp only [FV.den, TV.den, SV.den] at hkk
                        exact h1.h β a w (rep_unlock hr hkk)
                      · exact wpL_skip hg ht (hnot hbp) hd hsp (fun m hm => by intro y hy; simp at hy) (.inl ⟨rfl, rfl⟩) (ih _ _ (wn _) (h.2 (by cases b <;> cases p <;> simp_all)))
                    · by_cases hbp : b = p
                      · subst hbp
                        refine ⟨fun β a w hr => ?_⟩
                        have hkk := hr.knows t _ _ hlk
                        simp only [FV.den, TV.den, SV.den] at hkk
                        exact (hK _ _ _ hw.unlock (h.1 rfl)).h β a w (rep_unlock hr hkk)
                      · exact wpL_skip hg ht (hnot hbp) hd hsp (fun m hm => by intro y hy; simp at hy) (.inl ⟨rfl, rfl⟩) (ih _ _ (wn _) (h.2 (by cases b <;> cases p <;> simp_all)))
                  · have wl : WhenIn (gsOf all all) ((t, .t (.s (.bool p)), none) :: unlock t p fr) := hw.unlock.cons (fun _ _ h => by cases h)
                    have hrl : b = p → ∀ β a w, Rep X β fr σ a w → Rep X β ((t, .t (.s (.bool p)), none) :: unlock t p fr) σ a w := fun hbp β a w hr => by
                      have hkk := (hiff β a hr.knows).2 hbp
                      have hr' := rep_unlock hr hkk
                      refine ⟨hr'.defers, hr'.size, ?_, ?_, hr'.mem, hr'.same, hr'.agree, hr'.fits, hr'.src⟩
                      · intro d' v g hl
                        simp only [look] at hl
                        split at hl
                        · rename_i hb
                          have := Nat.eq_of_beq_eq_true hb
                          subst this
                          cases hl
                          exact hkk
                        · exact hr'.knows d' v g hl
                      · intro x hx
                        rcases List.mem_cons.1 hx with rfl | hx
                        · trivial
                        · exact hr'.frwf x hx
                    have hl0 : look t ((t, .t (.s (.bool p)), none) :: unlock t p fr) = some (.t (.s (.bool p)), none) := by simp [look]
                    split at h
                    · rename_i R hR
                      by_cases hbp : b = p
                      · have hgy : guardYes all ((t, .t (.s (.bool p)), none) :: unlock t p fr) o := by
                          unfold guardYes; rw [hg]
                          exact ⟨t, p, ht, hl0, rfl⟩
                        have hsp' : d < X.n ∧ ∀ k v t' p', (k, v, some (t', p')) ∈ (t, FV.t (.s (.bool p)), (none : Gd)) :: unlock t p fr → t' ≠ d := by
                          refine ⟨hsp.1, fun k v t' p' hm => ?_⟩
                          rcases List.mem_cons.1 hm with hm | hm
                          · simp at hm
                          · exact (unlock_put hsp).2 k v t' p' hm
                        have h1 := exOne_sound htt hct (rest := rest) (Q := Q) hd hsp' (show canPut X.n (gsOf all all) d ((t, FV.t (.s (.bool p)), (none : Gd)) :: unlock t p fr) = true from canPut_unlock hcp) wl hgy (fun v σ' hk => ih _ _ (wl.cons (fun _ _ h => by cases h)) hk) hR (h.1 hbp)
                        exact ⟨fun β a w hr => h1.h β a w (hrl hbp β a w hr)⟩
                      · exact wpL_skip hg ht (hnot hbp) hd hsp (fun m hm => by intro y hy; simp at hy) (.inl ⟨rfl, rfl⟩) (ih _ _ (wn _) (h.2 (by cases b <;> cases p <;> simp_all)))
                    · by_cases hbp : b = p
                      · exact ⟨fun β a w hr => (hK _ _ _ wl (h.1 hbp)).h β a w (hrl hbp β a w hr)⟩
                      · exact wpL_skip hg ht (hnot hbp) hd hsp (fun m hm => by intro y hy; simp at hy) (.inl ⟨rfl, rfl⟩) (ih _ _ (wn _) (h.2 (by cases b <;> cases p <;> simp_all)))
        · exact hK _ _ _ hw h
      · exact hK _ _ _ hw h

end
end Go.Sx

namespace Go.Sx
open Go

/-- Old blocks as they were. -/
theorem Sat.grow {β : Nat → Bd} {σ : List Ch} {φ : Heap} {w w' : World} (h : Sat β σ φ w) (hk : ∀ g, g < w.heap.size → w'.heap[g]? = w.heap[g]?) : Sat β σ φ w' := by
  refine ⟨h.disj, h.off, fun i c hc => Ch.sat_keep (h.sat i c hc) fun g hg => hk g (Ch.sat_rlt (h.sat i c hc) hg), fun p hp => ?_, h.wf⟩
  have h1 := h.frame p hp
  rw [hk p.1 (Array.getElem?_eq_some_iff.1 h1).1]; exact h1

/-- The worlds of a drawn region. -/
def CC (X : Cx) (β0 : Nat → Bd) (σ0 : List Ch) (w : World) : Prop := Sat β0 σ0 X.φ w ∧ Same X.w0 w

structure WpN (X : Cx) (all : List Oper) (Q : Exit → Act → World → Prop) (l : List Oper) (fr : Fr) (σ : List Ch) : Prop where
  h : ∀ β0 σ0 β a, (∀ w, CC X β0 σ0 w → Rep X β fr σ a w) → (∃ w, CC X β0 σ0 w) → wpQuiet X.P all.toArray (CC X β0 σ0) (fun a' => ∀ w', CC X β0 σ0 w' → Q .normal a' w') l a

/-- A part of a view, as a view of its own. -/
def evV (tt : TT) (fr : Fr) (σ : List Ch) (op : Op) (k : FV → List Ch → Prop) : Option Prop :=
  match op with
  | .slice t x lo hi none => match opd fr none x with
    | some (.s (.sl i off len cap)) => match tlook t tt, σ[i]? with
      | some ti, some (.view xs) => match ti.kd with
        | .slice _ sz _ => some (∃ l h : Nat, (∃ p q, boundP fr 0 l lo = some p ∧ boundP fr len h hi = some q ∧ p ∧ q) ∧ (l ≤ h ∧ h ≤ cap) ∧
            lenK σ fun j => forceL (σ ++ [.view (seg xs (off + l * sz) ((h - l) * sz))]) fun σ' => k (.t (.s (.sl j 0 (h - l) (cap - l)))) σ')
        | _ => none
      | _, _ => none
    | _ => none
  | _ => none

def exNb (tt : TT) (ct : CT) (n : Nat) (gs : List Nat) (all : List Oper) (o : Oper) (ih : Fr → List Ch → Prop) (fr : Fr) (σ : List Ch) : Prop :=
    match o.dst with
    | none => False
    | some d => match canPut n gs d fr with
      | true => match guardI all gs fr o with
        | .no => match ev tt fr none σ o.op with
          | .val v => ih ((d, v, none) :: fr) σ
          | _ => match evX tt fr none none σ o.op (fun v => ih ((d, v, none) :: fr) σ) with
            | some R => R
            | none => match evV tt fr σ o.op (fun v σ' => ih ((d, v, none) :: fr) σ') with
              | some R => R
              | none => match evR tt ct fr none none σ o.op (fun v => ih ((d, v, none) :: fr) σ) with
                | some R => R
                | none => match evC ct fr none o.op with
                  | some (p, v) => p ∧ ih ((d, v, none) :: fr) σ
                  | none => match evW tt fr σ o.op (fun v => ih ((d, v, none) :: fr) σ) with
                    | some R => R
                    | none => False
        | .yes t p b => match Nat.beq t d with
          | true => False
          | false => match ev tt fr (some (t, p)) σ o.op with
            | .val v => match v.wfB σ.length with
              | true => ih ((d, v, some (t, p)) :: fr) σ
              | false => False
            | _ => match evX tt fr (some (t, p)) (some (b, p)) σ o.op (fun v => ih ((d, v, some (t, p)) :: fr) σ) with
              | some R => R
              | none => match evC ct fr (some (t, p)) o.op with
                | some (q, v) => (b = p → q) ∧ ih ((d, v, some (t, p)) :: fr) σ
                | none => False
        | .bad => False
      | false => False

noncomputable def exN (tt : TT) (ct : CT) (n : Nat) (gs : List Nat) (all : List Oper) (K : Fr → List Ch → Prop) (l : List Oper) : Fr → List Ch → Prop :=
  List.rec (motive := fun _ => Fr → List Ch → Prop) (fun fr σ => K fr σ) (fun o _ ih fr σ => exNb tt ct n gs all o ih fr σ) l

section
variable {X : Cx} {tt : TT} {ct : CT} {all : List Oper} {Q : Exit → Act → World → Prop} {rest : List Oper} {o : Oper} {d : Nat} {fr : Fr} {σ : List Ch}

theorem rep_put {β β' : Nat → Bd} {σ' : List Ch} {a : Act} {w : World} {v : FV} {g : Gd} {x : Value} (hr : Rep X β fr σ a w) (hsp : d < X.n ∧ ∀ k v t p, (k, v, some (t, p)) ∈ fr → t ≠ d)
    (hext : ∀ i, i < σ.length → β' i = β i) (hlen : σ.length ≤ σ'.length) (hs : Sat β' σ' X.φ w) (hv : v.wf σ'.length)
    (hsrc : ∀ (l : Nat) (c : Ch), σ'[l]? = some c → ∀ g, g ∈ c.rfoot (β' l) → X.F g ∨ X.w0.heap.size ≤ g)
    (hx : match g with | none => x = v.den β' | some (t, p) => t ≠ d ∧ (a.tmps[t]? = some (.bool p) → x = v.den β') ∧ (a.tmps[t]? ≠ some (.bool p) → x = undef)) : Rep X β' ((d, v, g) :: fr) σ' (a.put (some d) x) w := by
  refine ⟨hr.defers, by simpa [Act.put] using hr.size, ?_, ?_, hs, hr.same, fun i hi => (hext i (Nat.lt_of_lt_of_le hi hr.fits)).trans (hr.agree i hi), Nat.le_trans hr.fits hlen, hsrc⟩
  · exact knows_put (Knows.ext hr.frwf hext hr.knows) (by rw [hr.size]; exact hsp.1) hsp.2 hx
  · intro y hy
    rcases List.mem_cons.1 hy with rfl | hy
    · exact hv
    · exact FV.wf_mono hlen (hr.frwf y hy)

/-- One operation that yields one value. -/
theorem wpN_step (hd : o.dst = some d) (_ : d < X.n ∧ ∀ k v t p, (k, v, some (t, p)) ∈ fr → t ≠ d)
    (h : ∀ β0 σ0 β a, (∀ w, CC X β0 σ0 w → Rep X β fr σ a w) → (∃ w, CC X β0 σ0 w) →
      (Region.wanted o (yielded all.toArray a.tmps) = true ∧ ∃ v g σ' β' x, (∀ w, CC X β0 σ0 w → o.quietAt X.P a (CC X β0 σ0) w x) ∧ (∀ w, CC X β0 σ0 w → Rep X β' ((d, v, g) :: fr) σ' (a.put (some d) x) w) ∧ WpN X all Q rest ((d, v, g) :: fr) σ') ∨
      (Region.wanted o (yielded all.toArray a.tmps) = false ∧ ∃ v g, (∀ w, CC X β0 σ0 w → Rep X β ((d, v, g) :: fr) σ (a.put (some d) undef) w) ∧ WpN X all Q rest ((d, v, g) :: fr) σ)) : WpN X all Q (o :: rest) fr σ := by
  refine ⟨fun β0 σ0 β a hr hne => ?_⟩
  rcases h β0 σ0 β a hr hne with ⟨hw, v, g, σ', β', x, hq, hr', hk⟩ | ⟨hw, v, g, hr', hk⟩
  · unfold wpQuiet
    rw [if_pos hw]
    refine ⟨x, hq, ?_⟩
    rw [hd]
    exact hk.h β0 σ0 β' _ hr' hne
  · unfold wpQuiet
    rw [if_neg (by simp [hw]), hd]
    exact hk.h β0 σ0 β _ hr' hne

theorem quiet_val {β0 : Nat → Bd} {σ0 : List Ch} {a : Act} {w : World} {x : Value} (hr : (execOp a.eval o).run X.P w = .ok (.value x) w) : o.quietAt X.P a (CC X β0 σ0) w x := by
  unfold Oper.quietAt
  rw [hr]
  exact ⟨rfl, rfl⟩

theorem quiet_call {β0 : Nat → Bd} {σ0 : List Ch} {β : Nat → Bd} {a : Act} {w : World} {c : Call} {fx : Operand} {f : FuncId} {cargs : List TV} {v : FV} {g : Gd} {fr : Fr} (hk : Knows β fr a) (hu : Under g a) (hC : CC X β0 σ0 w)
    (hc : Pure X.P f cargs v) (hcal : Sx.Callee X.P f) (ho : o.op = .call c) (hcc : c.callee = .value fx) (hfx : opd fr g fx = some (.clo (.func f) [] [])) (hl : opds fr g c.args.toList = some cargs) (hnv : v.wfB 0 = true) :
    o.quietAt X.P a (CC X β0 σ0) w (v.den β) := by
  unfold Oper.quietAt
  have hfx' := opd_sound hk hu hfx
  simp only [TV.den] at hfx'
  rw [call_run hcal ho hcc hfx']
  refine ⟨rfl, ?_⟩
  have hl' := opds_sound hk hu hl
  have hargs : (([] : List Value).toArray ++ c.args.map a.eval ++ ([] : List Value).toArray) = (cargs.map (TV.den β)).toArray := by
    apply Array.ext'
    simp [hl']
  simp only [List.map_nil]
  rw [hargs]
  refine (pure_calls hc β w).mono ?_
  rintro e w' ⟨⟨β', rfl⟩, hsame, hkeep⟩
  refine ⟨?_, hC.1.grow hkeep, hC.2.trans hsame⟩
  congr 1
  exact FV.den_ext (m := 0) (fun i hi => by omega) (FV.wfB_spec hnv)

theorem quiet_read {tt : TT} {β0 : Nat → Bd} {σ0 : List Ch} {β : Nat → Bd} {a : Act} {w : World} {c : Call} {fx : Operand} {f : FuncId} {l : List TV} {args : List RA} {v : FV} {g : Gd} {fr : Fr} {σ : List Ch} (hk : Knows β fr a) (hu : Under g a) (hC : CC X β0 σ0 w) (hm : Sat β σ X.φ w)
    (hrd : RdS X.P f args v) (hcal : Sx.Callee X.P f) (ho : o.op = .call c) (hcc : c.callee = .value fx) (hfx : opd fr g fx = some (.clo (.func f) [] [])) (hl : opds fr g c.args.toList = some l) (hr : rasOf tt σ l c.argTypes.toList = some args) (hnv : v.wfB 0 = true) :
    o.quietAt X.P a (CC X β0 σ0) w (v.den β) := by
  unfold Oper.quietAt
  have hfx' := opd_sound hk hu hfx
  simp only [TV.den] at hfx'
  rw [call_run hcal ho hcc hfx']
  refine ⟨rfl, ?_⟩
  have hl' := opds_sound hk hu hl
  have hargs : (([] : List Value).toArray ++ c.args.map a.eval ++ ([] : List Value).toArray) = (l.map (TV.den β)).toArray := by
    apply Array.ext'
    simp [hl']
  simp only [List.map_nil]
  rw [hargs]
  refine (reader_calls hrd hm hr).mono ?_
  rintro e w' ⟨⟨β', rfl⟩, hsame, hkeep⟩
  refine ⟨?_, hC.1.grow hkeep, hC.2.trans hsame⟩
  congr 1
  exact FV.den_ext (m := 0) (fun i hi => by omega) (FV.wfB_spec hnv)

end
end Go.Sx

namespace Go.Sx
open Go

theorem Sat.ext {β β' : Nat → Bd} {σ : List Ch} {φ : Heap} {w : World} (h : Sat β σ φ w) (he : ∀ i, i < σ.length → β' i = β i) : Sat β' σ φ w := by
  have lt : ∀ {i : Nat} {c : Ch}, σ[i]? = some c → i < σ.length := fun h => (List.getElem?_eq_some_iff.1 h).1
  refine ⟨?_, ?_, ?_, h.frame, h.wf⟩
  · intro i j c d hc hd hij g hg
    rw [he i (lt hc)] at hg; rw [he j (lt hd)]; exact h.disj i j c d hc hd hij g hg
  · intro i c hc g hg
    rw [he i (lt hc)] at hg; exact h.off i c hc g hg
  · intro i c hc
    rw [he i (lt hc)]
    exact Ch.sat_ext he (h.wf c (List.mem_of_getElem? hc)) (h.sat i c hc)

section
variable {X : Cx} {tt : TT} {ct : CT} {all : List Oper} {Q : Exit → Act → World → Prop}

theorem evC_pure (hct : CTok X.P ct) {fr : Fr} {g : Gd} {op : Op} {p : Prop} {v : FV} (h : evC ct fr g op = some (p, v)) (hp : p) :
    ∃ c fx f cargs, op = .call c ∧ c.callee = .value fx ∧ opd fr g fx = some (.clo (.func f) [] []) ∧ opds fr g c.args.toList = some cargs ∧ Pure X.P f cargs v ∧ Sx.Callee X.P f ∧ v.wfB 0 = true := by
  unfold evC at h
  split at h
  · rename_i c
    split at h
    · rename_i fx hcal
      split at h
      · rename_i f hfx
        split at h
        · rename_i s l hs hl
          split at h
          · rename_i p' v' hno hsl
            split at h
            · rename_i hnv
              cases h
              have hce := clook_ok hct hs
              exact ⟨c, fx, f, l, rfl, hcal, hfx, hl, hce.ok l _ _ hsl hp, hce.cal, hnv⟩
            · cases h
          · cases h
        · cases h
      · cases h
    · cases h
  · cases h
theorem evC_closed {fr : Fr} {g : Gd} {op : Op} {p : Prop} {v : FV} (h : evC ct fr g op = some (p, v)) : v.wfB 0 = true := by
  unfold evC at h
  split at h
  · split at h
    · split at h
      · split at h
        · split at h
          · split at h
            · rename_i hnv; cases h; exact hnv
            · cases h
          · cases h
        · cases h
      · cases h
    · cases h
  · cases h

theorem exN_sound (htt : TTok X.P tt) (hct : CTok X.P ct) {K : Fr → List Ch → Prop} (hK : ∀ fr σ, K fr σ → WpE X Q .normal fr σ) :
    ∀ (l : List Oper) (fr : Fr) (σ : List Ch), WhenIn (gsOf all all) fr → exN tt ct X.n (gsOf all all) all K l fr σ → WpN X all Q l fr σ
  | [], fr, σ, _, h => ⟨fun β0 σ0 β a hr _ => fun w' hw' => (hK fr σ h).h β a w' (hr w' hw')⟩
  | o :: rest, fr, σ, hw, h => by
    have ih := exN_sound htt hct hK rest
    replace h : exNb tt ct X.n (gsOf all all) all o (exN tt ct X.n (gsOf all all) all K rest) fr σ := h
    unfold exNb at h
    split at h
    · exact h.elim
    · rename_i d hd
      split at h
      · rename_i hcp
        have hsp := canPut_spec hw hcp
        have wn : ∀ v, WhenIn (gsOf all all) ((d, v, none) :: fr) := fun v => hw.cons (fun _ _ h => by cases h)
        have keepSame : ∀ {β0 : Nat → Bd} {σ0 : List Ch} {β : Nat → Bd} {a : Act} {v : FV} {g : Gd} {x : Value}, (∀ w, CC X β0 σ0 w → Rep X β fr σ a w) → v.wf σ.length →
            (match g with | none => x = v.den β | some (t, p) => t ≠ d ∧ (a.tmps[t]? = some (.bool p) → x = v.den β) ∧ (a.tmps[t]? ≠ some (.bool p) → x = undef)) → ∀ w, CC X β0 σ0 w → Rep X β ((d, v, g) :: fr) σ (a.put (some d) x) w :=
          fun hr hv hx w hC => rep_put (hr w hC) hsp (fun _ _ => rfl) (Nat.le_refl _) (hr w hC).mem hv (hr w hC).src hx
        split at h
        · rename_i hgi
          have hgn := guardI_no hgi
          have hwant : ∀ a : Act, Region.wanted o (yielded all.toArray a.tmps) = true := fun a => by simp [Region.wanted, hgn]
          split at h
          · rename_i v hv
            refine wpN_step hd hsp fun β0 σ0 β a hr ⟨w0, hw0⟩ => .inl ⟨hwant a, v, none, σ, β, v.den β, fun w hC => ?_, ?_, ih _ _ (wn v) h⟩
            · have hr' := hr w hC
              exact quiet_val (ev_val (g := none) htt hr'.knows trivial hr'.frwf hr'.mem hv).1
            · have hr' := hr w0 hw0
              exact keepSame hr (ev_val (g := none) htt hr'.knows trivial hr'.frwf hr'.mem hv).2 rfl
          · split at h
            · rename_i R hx
              refine wpN_step hd hsp fun β0 σ0 β a hr ⟨w0, hw0⟩ => ?_
              have hr' := hr w0 hw0
              obtain ⟨v, hk, hvw, hrun⟩ := evX_soundC (P := X.P) (C := CC X β0 σ0) (g := none) (gb := none) htt hr'.knows trivial hr'.frwf (fun w hC => (hr w hC).mem) hx h
              exact .inl ⟨hwant a, v, none, σ, β, v.den β, fun w hC => quiet_val (hrun w hC trivial), keepSame hr (hvw _ (Nat.le_refl _)) rfl, ih _ _ (wn v) hk⟩
            · split at h
              · rename_i R hx
                -- a part of a view
                unfold evV at hx
                split at hx
                · rename_i t x lo hi hop
                  split at hx
                  · rename_i i off len cap hox
                    split at hx
                    · rename_i ti xs hti hc
                      split at hx
                      · rename_i e sz by_ hkd
                        cases hx
                        obtain ⟨l, h', ⟨p, q, hp, hq, hp', hq'⟩, ⟨hlh, hhc⟩, hkk⟩ := h
                        rw [lenK_eq, forceL_eq] at hkk
                        obtain ⟨ie, hu, hi', hsz, _⟩ := kd_slice ((tlook_ok htt hti).kd.trans hkd)
                        refine wpN_step hd hsp fun β0 σ0 β a hr ⟨w0, hw0⟩ => ?_
                        let b : Bd := ⟨(β i).g, (if cap = l then (β i).o + off else (β i).o + (off + l * sz)), (β i).nil⟩
                        let β' : Nat → Bd := fun j => if j < σ.length then β j else b
                        have hb1 : ∀ j, j < σ.length → β' j = β j := fun j hj => by simp [β', hj]
                        have hb2 : β' σ.length = b := by simp [β']
                        have hEff : ∀ w, CC X β0 σ0 w → Sat β' (σ ++ [.view (seg xs (off + l * sz) ((h' - l) * sz))]) X.φ w ∧
                            ∀ (j : Nat) (c : Ch), (σ ++ [.view (seg xs (off + l * sz) ((h' - l) * sz))])[j]? = some c → ∀ g, g ∈ c.rfoot (β' j) → X.F g ∨ X.w0.heap.size ≤ g := by
                          intro w hC
                          have hr' := hr w hC
                          obtain ⟨β1, he, hβ⟩ := eff_view (P := X.P) (F := fun g => X.F g ∨ X.w0.heap.size ≤ g) hr'.mem (rep_src hr') hc (h' - l) (cap - l) (off + l * sz) ((h' - l) * sz) (if cap = l then (β i).o + off else (β i).o + (off + l * sz)) (fun hne => by
                            have : ¬ cap = l := fun e => by
                              have : h' - l = 0 := by omega
                              rw [this] at hne; simp at hne
                            rw [if_neg this])
                          have hag : ∀ j, j < (σ ++ [Ch.view (seg xs (off + l * sz) ((h' - l) * sz))]).length → β' j = β1 j := by
                            intro j hj
                            simp at hj
                            rcases Nat.lt_or_ge j σ.length with hjl | hjl
                            · rw [hb1 j hjl, he.ext j hjl]
                            · have : j = σ.length := by omega
                              subst this
                              rw [hb2, hβ]
                          refine ⟨he.sat.ext hag, fun j c hj g hg => ?_⟩
                          rw [hag j (List.getElem?_eq_some_iff.1 hj).1] at hg
                          rcases he.src j c hj g hg with h1 | h1
                          · exact h1
                          · exact .inr (Nat.le_trans hr'.same.size h1)
                        refine .inl ⟨hwant a, _, none, _, β', FV.den β' (.t (.s (.sl σ.length 0 (h' - l) (cap - l)))), fun w hC => ?_, fun w hC => ?_, ih _ _ (wn _) hkk⟩
                        · have hr' := hr w hC
                          have hrun := slice_run (P := X.P) (w := w) hr'.knows hu hi' (base := cond (β i).nil none (some ⟨(β i).g, (β i).o + off, none⟩)) (cap := cap) hp hq hp' hq' hlh hhc
                          refine quiet_val ?_
                          unfold execOp
                          rw [hop]
                          simp only [opd_sound (g := none) hr'.knows trivial hox, den_sl, Option.map_none, Sem.run_bind]
                          rw [hrun]
                          simp only [Result.andThen_ok, Sem.run_pure, FV.den, den_sl, hb2, b, hsz, Nat.add_zero]
                          congr 3
                          cases (β i).nil <;> by_cases hcl : cap = l <;> simp [hcl, addr_add, Nat.add_assoc]
                        · exact rep_put (hr w hC) hsp hb1 (by simp) (hEff w hC).1 (by simp [FV.wf, TV.wf, SV.wf]) (hEff w hC).2 rfl
                      · cases hx
                    · cases hx
                  · cases hx
                · cases hx
              · split at h
                · rename_i R hx
                  obtain ⟨v, hk, hnv, c, fx, f, l, args, ho, hcal, hfx, hl, hras, hcl, hrd⟩ := evR_sound hct hx h
                  refine wpN_step hd hsp fun β0 σ0 β a hr ⟨w0, hw0⟩ => ?_
                  exact .inl ⟨hwant a, v, none, σ, β, v.den β, fun w hC => quiet_read (hr w hC).knows (g := none) trivial hC (hr w hC).mem (hrd fun p hp => hp) hcl ho hcal hfx hl hras hnv, keepSame hr (FV.wf_mono (Nat.zero_le _) (FV.wfB_spec hnv)) rfl, ih _ _ (wn v) hk⟩
                · split at h
                  · rename_i p v hc
                    obtain ⟨hp, hk⟩ := h
                    obtain ⟨c, fx, f, cargs, ho, hcal, hfx, hl, hpure, hcl, hnv⟩ := evC_pure hct hc hp
                    refine wpN_step hd hsp fun β0 σ0 β a hr ⟨w0, hw0⟩ => ?_
                    exact .inl ⟨hwant a, v, none, σ, β, v.den β, fun w hC => quiet_call (hr w hC).knows (g := none) trivial hC hpure hcl ho hcal hfx hl hnv, keepSame hr (FV.wf_mono (Nat.zero_le _) (FV.wfB_spec hnv)) rfl, ih _ _ (wn v) hk⟩
                  · split at h
                    · rename_i R hx
                      refine wpN_step hd hsp fun β0 σ0 β a hr ⟨w0, hw0⟩ => ?_
                      have hr' := hr w0 hw0
                      obtain ⟨v, hk, hvw, hrun⟩ := evW_sound (P := X.P) htt hr'.knows hr'.frwf hx h
                      exact .inl ⟨hwant a, v, none, σ, β, v.den β, fun w hC => quiet_val (hrun w), keepSame hr hvw rfl, ih _ _ (wn v) hk⟩
                    · exact h.elim
        · rename_i t p b hgi
          obtain ⟨j, hg, ht, htg, hiff, _⟩ := guardI_yes hgi
          split at h
          · exact h.elim
          · rename_i htd0
            have htd : t ≠ d := fun e => by subst e; rw [Nat.beq_refl] at htd0; cases htd0
            have wg : ∀ v, WhenIn (gsOf all all) ((d, v, some (t, p)) :: fr) := fun v => hw.cons (fun _ _ h => by cases h; exact htg)
            have hknow : ∀ {β0 : Nat → Bd} {σ0 : List Ch} {β : Nat → Bd} {a : Act}, (∀ w, CC X β0 σ0 w → Rep X β fr σ a w) → (∃ w, CC X β0 σ0 w) → (a.tmps[t]? = some (.bool p) ↔ b = p) := by
              rintro β0 σ0 β a hr ⟨w0, hw0⟩
              exact hiff β a (hr w0 hw0).knows
            have want1 : ∀ {a : Act}, (a.tmps[t]? = some (.bool p) ↔ b = p) → b = p → Region.wanted o (yielded all.toArray a.tmps) = true := fun {a} ha hbp => (wanted_iff hg ht a).2 (ha.2 hbp)
            have want0 : ∀ {a : Act}, (a.tmps[t]? = some (.bool p) ↔ b = p) → ¬ b = p → Region.wanted o (yielded all.toArray a.tmps) = false := fun {a} ha hbp => by
              cases hww : Region.wanted o (yielded all.toArray a.tmps) with
              | false => rfl
              | true => exact absurd (ha.1 ((wanted_iff hg ht a).1 hww)) hbp
            have fin : ∀ (v : FV), (∀ m, σ.length ≤ m → v.wf m) → WpN X all Q rest ((d, v, some (t, p)) :: fr) σ →
                (∀ (β0 : Nat → Bd) (σ0 : List Ch) (β : Nat → Bd) (a : Act) (w : World), CC X β0 σ0 w → Rep X β fr σ a w → a.tmps[t]? = some (.bool p) → b = p → o.quietAt X.P a (CC X β0 σ0) w (v.den β)) → WpN X all Q (o :: rest) fr σ := by
              intro v hv hk hq
              refine wpN_step hd hsp fun β0 σ0 β a hr hne => ?_
              have ha := hknow hr hne
              by_cases hbp : b = p
              · refine .inl ⟨want1 ha hbp, v, some (t, p), σ, β, v.den β, fun w hC => hq β0 σ0 β a w hC (hr w hC) (ha.2 hbp) hbp, keepSame hr (hv _ (Nat.le_refl _)) ⟨htd, fun _ => rfl, fun hn => absurd (ha.2 hbp) hn⟩, hk⟩
              · exact .inr ⟨want0 ha hbp, v, some (t, p), keepSame hr (hv _ (Nat.le_refl _)) ⟨htd, fun hp => absurd (ha.1 hp) hbp, fun _ => rfl⟩, hk⟩
            split at h
            · rename_i v hv
              split at h
              · rename_i hvw
                exact fin v (fun m hm => FV.wf_mono hm (FV.wfB_spec hvw)) (ih _ _ (wg v) h) (fun β0 σ0 β a w hC hr hu _ => quiet_val (ev_val (g := some (t, p)) htt hr.knows hu hr.frwf hr.mem hv).1)
              · exact h.elim
            · split at h
              · rename_i R hx
                refine wpN_step hd hsp fun β0 σ0 β a hr hne => ?_
                have ha := hknow hr hne
                obtain ⟨w0, hw0⟩ := hne
                have hr' := hr w0 hw0
                obtain ⟨v, hk, hvw, hrun⟩ := evX_soundC (P := X.P) (C := CC X β0 σ0) (g := some (t, p)) (gb := some (b, p)) htt hr'.knows ⟨rfl, fun hp => ha.1 hp⟩ hr'.frwf (fun w hC => (hr w hC).mem) hx h
                by_cases hbp : b = p
                · exact .inl ⟨want1 ha hbp, v, some (t, p), σ, β, v.den β, fun w hC => quiet_val (hrun w hC (ha.2 hbp)), keepSame hr (hvw _ (Nat.le_refl _)) ⟨htd, fun _ => rfl, fun hn => absurd (ha.2 hbp) hn⟩, ih _ _ (wg v) hk⟩
                · exact .inr ⟨want0 ha hbp, v, some (t, p), keepSame hr (hvw _ (Nat.le_refl _)) ⟨htd, fun hp => absurd (ha.1 hp) hbp, fun _ => rfl⟩, ih _ _ (wg v) hk⟩
              · split at h
                · rename_i q v hc
                  obtain ⟨hq, hk⟩ := h
                  have hcl := evC_closed hc
                  refine fin v (fun m _ => FV.wf_mono (Nat.zero_le _) (FV.wfB_spec hcl)) (ih _ _ (wg v) hk) (fun β0 σ0 β a w hC hr hu hbp => ?_)
                  obtain ⟨c, fx, f, cargs, ho, hcal, hfx, hl, hpure, hcle, hnv⟩ := evC_pure hct hc (hq hbp)
                  exact quiet_call hr.knows (g := some (t, p)) hu hC hpure hcle ho hcal hfx hl hnv
                · exact h.elim
        · exact h.elim
      · exact h.elim

end
end Go.Sx

namespace Go.Sx
open Go

theorem oper_wp_Q {P : Program} {o : Oper} {a : Act} {w : World} {K : Act → World → Prop} {Q Q' : Exit → Act → World → Prop} (h : ∀ c a w, Q (.panic c) a w → Q' (.panic c) a w) (h' : LetsOut Q → LetsOut Q')
    (hh : o.wp P a w K Q) : o.wp P a w K Q' := by
  unfold Oper.wp at *
  generalize (execOp a.eval o).run P w = r at *
  cases r with
  | ok n w' =>
    cases n <;> simp only [Oper.upon] at hh ⊢ <;>
      first
        | exact hh
        | exact Calls.mono hh (fun e w'' he => by cases e <;> first | exact he | exact h _ _ _ he | exact h' he)
  | halt x w' => cases x <;> simp only [Oper.upon] at hh ⊢ <;> first | exact hh | exact h _ _ _ hh | exact h' hh

/-- What an operation waits for. -/
def depsOf (o : Oper) : List Nat := (o.after.toList.filter (Region.binds .any)).map (·.on)
def tabFrom : Nat → List Oper → List (Nat × Oper × List Nat)
  | _, [] => []
  | k, o :: l => (k, o, depsOf o) :: tabFrom (k + 1) l
def allL (ls : List Nat) : List Nat → Bool
  | [] => true
  | d :: ds => match elemN d ls with
    | true => allL ls ds
    | false => false
/-- What may come up. -/
def readyT (ls : List Nat) : List (Nat × Oper × List Nat) → List (Nat × Oper)
  | [] => []
  | (k, o, ds) :: t => match elemN k ls with
    | true => readyT ls t
    | false => match allL ls ds with
      | true => (k, o) :: readyT ls t
      | false => readyT ls t
def freeT (all : Array Oper) (i : Nat) (oi : Oper) (ls : List Nat) : List (Nat × Oper × List Nat) → Bool
  | [] => true
  | (k, oj, ds) :: t => match Nat.beq k i || elemN k ls || elemN i ds || oi.apart all oj with
    | true => freeT all i oi ls t
    | false => false
/-- What looks as if it might be taken first. -/
def calm (o : Oper) : Bool := match o.op with
    | .move _ => true
    | .assign _ => true
    | .nilCheck _ => true
    | .fieldAddr .. => true
    | .field .. => true
    | .extract .. => true
    | .binOp .. => true
    | .unOp .. => true
    | .convert .. => match o.guard with
      | none => true
      | some _ => false
    | _ => false
/-- A value that the memory has no part in: it may be taken first. -/
def calmV (tt : TT) (n : Nat) (gs : List Nat) (all : List Oper) (fr : Fr) (m : Nat) (o : Oper) : Option (Nat × FV × Gd) := match o.dst with
  | some d => match canPut n gs d fr with
    | true => match guardI all gs fr o with
      | .no => match ev tt fr none [] o.op with
        | .val v => some (d, v, none)
        | _ => none
      | .yes t p _ => match Nat.beq t d with
        | true => none
        | false => match ev tt fr (some (t, p)) [] o.op with
          | .val v => match v.wfB m with
            | true => some (d, v, some (t, p))
            | false => none
          | _ => none
      | .bad => none
    | false => none
  | none => none
def pickD (tt : TT) (n : Nat) (gs : List Nat) (al : List Oper) (fr : Fr) (m : Nat) (all : Array Oper) (tab : List (Nat × Oper × List Nat)) (ls : List Nat) : List (Nat × Oper) → Option (Nat × Nat × FV × Gd)
  | [] => none
  | (i, o) :: rs => match calmV tt n gs al fr m o with
    | some (d, v, g) => match freeT all i o ls tab with
      | true => some (i, d, v, g)
      | false => pickD tt n gs al fr m all tab ls rs
    | none => pickD tt n gs al fr m all tab ls rs
def pickQ (all : Array Oper) (tab : List (Nat × Oper × List Nat)) (ls : List Nat) : List (Nat × Oper) → Option (Nat × Oper)
  | [] => none
  | (i, o) :: rs => match calm o with
    | true => match freeT all i o ls tab with
      | true => some (i, o)
      | false => pickQ all tab ls rs
    | false => pickQ all tab ls rs
noncomputable def allK (f : Nat × Oper → Prop) (l : List (Nat × Oper)) : Prop := List.rec (motive := fun _ => Prop) True (fun x l ih => match l with
  | [] => f x
  | _ :: _ => f x ∧ ih) l
def only (k : Fr → List Ch → Prop) : List Oper → Fr → List Ch → Prop
  | [], fr, σ => k fr σ
  | _ :: _, _, _ => False
noncomputable def stepH (tt : TT) (ct : CT) (n : Nat) (gs : List Nat) (all : List Oper) (o : Oper) (k : Fr → List Ch → Prop) : Fr → List Ch → Prop := exL tt ct n gs [] all (only k) [o]
noncomputable def exHb (tt : TT) (ct : CT) (n : Nat) (gs : List Nat) (all : List Oper) (tab : List (Nat × Oper × List Nat)) (K : Fr → List Ch → Prop) (ih : List Nat → Fr → List Ch → Prop) (ls : List Nat) (fr : Fr) (σ : List Ch) : Prop :=
  match readyT ls tab with
  | [] => K fr σ
  | r :: rs => match pickD tt n gs all fr σ.length all.toArray tab ls (r :: rs) with
    | some (i, d, v, g) => ih (i :: ls) ((d, v, g) :: fr) σ
    | none => allK (fun p => stepH tt ct n gs all p.2 (ih (p.1 :: ls)) fr σ) (r :: rs)
noncomputable def exH (tt : TT) (ct : CT) (n : Nat) (gs : List Nat) (all : List Oper) (tab : List (Nat × Oper × List Nat)) (K : Fr → List Ch → Prop) (f : Nat) : List Nat → Fr → List Ch → Prop :=
  Nat.rec (motive := fun _ => List Nat → Fr → List Ch → Prop) (fun ls fr σ => match readyT ls tab with
    | [] => K fr σ
    | _ :: _ => False) (fun _ ih ls fr σ => exHb tt ct n gs all tab K ih ls fr σ) f

/-- Is there one way alone. -/
def oneWay (all : Array Oper) (tab : List (Nat × Oper × List Nat)) : Nat → List Nat → Bool
  | 0, _ => true
  | f + 1, ls => match readyT ls tab with
    | [] => true
    | r :: rs => match pickQ all tab ls (r :: rs) with
      | some (i, _) => oneWay all tab f (i :: ls)
      | none => match rs with
        | [] => oneWay all tab f (r.1 :: ls)
        | _ :: _ => false
/-- What exN does not take. -/
def effOp (ct : CT) (o : Oper) : Bool := match o.op with
  | .makeSlice .. => true
  | .buildSlice .. => true
  | .alloc .. => true
  | .box .. => true
  | .store .. => true
  | .call c => match c.callee with
    | .builtin .append => true
    | .builtin .copy => true
    | .value (.func f) => match clook f ct with
      | some (.st _) => true
      | _ => false
    | _ => false
  | _ => false
def effy (ct : CT) : List Oper → Bool
  | [] => false
  | o :: l => match effOp ct o with
    | true => true
    | false => effy ct l

/-- No select statement in it. -/
def noSel : List Oper → Bool
  | [] => true
  | o :: l => match o.op with
    | .select .. => false
    | .defer _ => false
    | _ => noSel l
theorem noSel_both : ∀ {l : List Oper}, noSel l = true → ∀ o ∈ l, (∀ cs b, o.op ≠ .select cs b) ∧ ∀ c, o.op ≠ .defer c
  | [], _, o, ho => by cases ho
  | o :: l, h, p, hp => by
    unfold noSel at h
    split at h
    · cases h
    · cases h
    · rename_i hne hnd
      rcases List.mem_cons.1 hp with rfl | hp
      · exact ⟨fun _ _ e => hne _ _ e, fun _ e => hnd _ e⟩
      · exact noSel_both h p hp
theorem noSel_mem {l : List Oper} (h : noSel l = true) (o : Oper) (ho : o ∈ l) : ∀ cs b, o.op ≠ .select cs b := (noSel_both h o ho).1
theorem noSel_def {ops : Array Oper} (h : noSel ops.toList = true) (i : Nat) (o : Oper) (ho : ops[i]? = some o) : deferB o = false := by
  have h1 := (noSel_both h o (by rw [Array.mem_toList_iff]; exact Array.mem_of_getElem? ho)).2
  unfold deferB
  split
  · rename_i c hc; exact absurd hc (h1 c)
  · rfl
theorem noSel_spec {l : List Oper} (h : noSel l = true) : Region.noSelect l.toArray = true := by
  unfold Region.noSelect
  refine Array.all_eq_true_iff_forall_mem.2 fun o ho => ?_
  have hm := noSel_mem h o (by simpa using ho)
  split
  · rename_i cs b he; exact absurd he (hm _ _)
  · rfl

theorem elemN_iff {d : Nat} {l : List Nat} : elemN d l = true ↔ d ∈ l := ⟨elemN_true, fun h => by
  cases e : elemN d l with
  | true => rfl
  | false => exact absurd h (elemN_false e)⟩
theorem allL_iff {ls : List Nat} : ∀ {ds : List Nat}, allL ls ds = true ↔ ∀ d ∈ ds, d ∈ ls
  | [] => by simp [allL]
  | d :: ds => by
    unfold allL
    split
    · rename_i h; simp [allL_iff, elemN_iff.1 h]
    · rename_i h; simp [elemN_false h]
theorem mem_depsOf {o : Oper} {i : Nat} : i ∈ depsOf o ↔ ∃ e ∈ o.after, Region.binds .any e = true ∧ e.on = i := by
  simp [depsOf, and_assoc]
theorem mem_tabFrom {x : Nat × Oper × List Nat} : ∀ {l : List Oper} {k : Nat}, x ∈ tabFrom k l ↔ k ≤ x.1 ∧ l[x.1 - k]? = some x.2.1 ∧ x.2.2 = depsOf x.2.1
  | [], k => by simp [tabFrom]
  | o :: l, k => by
    rw [tabFrom, List.mem_cons, mem_tabFrom (l := l)]
    obtain ⟨i, p, ds⟩ := x
    simp only [Prod.mk.injEq]
    constructor
    · rintro (⟨rfl, rfl, rfl⟩ | ⟨h1, h2, h3⟩)
      · simp
      · refine ⟨by omega, ?_, h3⟩
        have : i - k = (i - (k + 1)) + 1 := by omega
        rw [this, List.getElem?_cons_succ]; exact h2
    · rintro ⟨h1, h2, h3⟩
      rcases Nat.lt_or_ge k i with h | h
      · right
        have : i - k = (i - (k + 1)) + 1 := by omega
        rw [this, List.getElem?_cons_succ] at h2
        exact ⟨by omega, h2, h3⟩
      · left
        have : i = k := by omega
        subst this
        simp at h2
        subst h2
        exact ⟨rfl, rfl, h3⟩
theorem mem_readyT {ls : List Nat} {x : Nat × Oper} : ∀ {t : List (Nat × Oper × List Nat)}, x ∈ readyT ls t ↔ ∃ ds, (x.1, x.2, ds) ∈ t ∧ x.1 ∉ ls ∧ ∀ d ∈ ds, d ∈ ls
  | [] => by simp [readyT]
  | (k, o, ds) :: t => by
    have ih := mem_readyT (ls := ls) (x := x) (t := t)
    obtain ⟨i, p⟩ := x
    unfold readyT
    split
    · rename_i h
      have hk := elemN_iff.1 h
      rw [ih]
      constructor
      · rintro ⟨ds', h1, h2⟩; exact ⟨ds', List.mem_cons_of_mem _ h1, h2⟩
      · rintro ⟨ds', h1, h2⟩
        rcases List.mem_cons.1 h1 with h3 | h3
        · cases h3; exact absurd hk h2.1
        · exact ⟨ds', h3, h2⟩
    · rename_i h
      have hk := elemN_false h
      split
      · rename_i h'
        have hd := allL_iff.1 h'
        rw [List.mem_cons, ih]
        constructor
        · rintro (h3 | ⟨ds', h1, h2⟩)
          · cases h3; exact ⟨ds, List.mem_cons_self, hk, hd⟩
          · exact ⟨ds', List.mem_cons_of_mem _ h1, h2⟩
        · rintro ⟨ds', h1, h2⟩
          rcases List.mem_cons.1 h1 with h3 | h3
          · cases h3; exact .inl rfl
          · exact .inr ⟨ds', h3, h2⟩
      · rename_i h'
        rw [ih]
        constructor
        · rintro ⟨ds', h1, h2⟩; exact ⟨ds', List.mem_cons_of_mem _ h1, h2⟩
        · rintro ⟨ds', h1, h2⟩
          rcases List.mem_cons.1 h1 with h3 | h3
          · cases h3
            rw [allL_iff.2 h2.2] at h'; cases h'
          · exact ⟨ds', h3, h2⟩
theorem freeT_spec {all : Array Oper} {i : Nat} {oi : Oper} {ls : List Nat} : ∀ {t : List (Nat × Oper × List Nat)}, freeT all i oi ls t = true → ∀ k oj ds, (k, oj, ds) ∈ t → k ≠ i → k ∉ ls → i ∉ ds → oi.apart all oj = true
  | [], _, k, oj, ds, hm, _, _, _ => by cases hm
  | (k', oj', ds') :: t, h, k, oj, ds, hm, h1, h2, h3 => by
    unfold freeT at h
    split at h
    · rename_i hb
      rcases List.mem_cons.1 hm with h4 | h4
      · cases h4
        simp only [Bool.or_eq_true, elemN_iff] at hb
        rcases hb with ((hb | hb) | hb) | hb
        · exact absurd (Nat.eq_of_beq_eq_true hb) h1
        · exact absurd hb h2
        · exact absurd hb h3
        · exact hb
      · exact freeT_spec h k oj ds h4 h1 h2 h3
    · cases h
theorem pickD_spec {tt : TT} {n : Nat} {gs : List Nat} {al : List Oper} {fr : Fr} {m : Nat} {all : Array Oper} {tab : List (Nat × Oper × List Nat)} {ls : List Nat} {i d : Nat} {v : FV} {g : Gd} : ∀ {rs : List (Nat × Oper)}, pickD tt n gs al fr m all tab ls rs = some (i, d, v, g) →
    ∃ o, (i, o) ∈ rs ∧ calmV tt n gs al fr m o = some (d, v, g) ∧ freeT all i o ls tab = true
  | [], h => by cases h
  | (k, p) :: rs, h => by
    unfold pickD at h
    split at h
    · rename_i d' v' g' hc
      split at h
      · rename_i hf
        cases h
        exact ⟨p, List.mem_cons_self, hc, hf⟩
      · obtain ⟨o, h1, h2⟩ := pickD_spec h; exact ⟨o, List.mem_cons_of_mem _ h1, h2⟩
    · obtain ⟨o, h1, h2⟩ := pickD_spec h; exact ⟨o, List.mem_cons_of_mem _ h1, h2⟩
theorem calmV_spec {tt : TT} {n : Nat} {gs : List Nat} {al : List Oper} {fr : Fr} {m : Nat} {o : Oper} {d : Nat} {v : FV} {g : Gd} (h : calmV tt n gs al fr m o = some (d, v, g)) : o.dst = some d ∧ canPut n gs d fr = true ∧
    ((guardI al gs fr o = .no ∧ g = none ∧ ev tt fr none [] o.op = .val v) ∨ (∃ t p b, guardI al gs fr o = .yes t p b ∧ t ≠ d ∧ g = some (t, p) ∧ ev tt fr (some (t, p)) [] o.op = .val v ∧ v.wfB m = true)) := by
  unfold calmV at h
  split at h
  · rename_i d' hd
    split at h
    · rename_i hp
      split at h
      · rename_i hg
        split at h
        · rename_i v' hv
          cases h
          exact ⟨hd, hp, .inl ⟨hg, rfl, hv⟩⟩
        · cases h
      · rename_i t p b hg
        split at h
        · cases h
        · rename_i htd
          split at h
          · rename_i v' hv
            split at h
            · rename_i hw
              cases h
              exact ⟨hd, hp, .inr ⟨t, p, b, hg, (fun e => by subst e; rw [Nat.beq_refl] at htd; cases htd), rfl, hv, hw⟩⟩
            · cases h
          · cases h
      · cases h
    · cases h
  · cases h
theorem evLoad_nil {tt : TT} {t : Nat} {x : TV} {v : FV} (h : evLoad tt [] t x = .val v) : False := by
  unfold evLoad at h
  split at h
  · simp at h
  · cases h
theorem ev_nil {tt : TT} {fr : Fr} {g : Gd} {op : Op} {v : FV} (σ : List Ch) (h : ev tt fr g [] op = .val v) : ev tt fr g σ op = .val v := by
  cases op <;> first
    | exact h
    | (rename_i t x
       simp only [ev] at h
       split at h
       · exact (evLoad_nil h).elim
       · cases h)
theorem sat_dead (β : Nat → Bd) (n : Nat) (w : World) : Sat β (List.replicate n .dead) [] w := by
  have hd : ∀ (i : Nat) (c : Ch), (List.replicate n Ch.dead)[i]? = some c → c = .dead := fun i c h => (List.mem_replicate.1 (List.mem_of_getElem? h)).2
  refine ⟨?_, ?_, ?_, ?_, ?_⟩
  · intro i j c d hc _ _ g hg; rw [hd i c hc] at hg; cases hg
  · intro i c hc g hg; rw [hd i c hc] at hg; cases hg
  · intro i c hc; rw [hd i c hc]; trivial
  · intro p hp; cases hp
  · intro c hc; rw [(List.mem_replicate.1 hc).2]; trivial
theorem calm_runs {P : Program} {tt : TT} (htt : TTok P tt) {β : Nat → Bd} {fr : Fr} {m : Nat} {a : Act} {g : Gd} (hk : Knows β fr a) (hu : Under g a) (hw : ∀ e ∈ fr, e.2.1.wf m) {o : Oper} {v : FV} (h : ev tt fr g [] o.op = .val v) :
    ∀ w, (execOp a.eval o).run P w = .ok (.value (v.den β)) w := by
  have h1 := fun w => ev_val htt (σ := List.replicate m .dead) (w := w) hk hu (by simpa using hw) (sat_dead β m w) (ev_nil _ h)
  exact fun w => (h1 w).1
theorem calm_wf {P : Program} {tt : TT} (htt : TTok P tt) {β : Nat → Bd} {fr : Fr} {m : Nat} {a : Act} (hk : Knows β fr a) (hw : ∀ e ∈ fr, e.2.1.wf m) {o : Oper} {v : FV} (h : ev tt fr none [] o.op = .val v) : v.wf m := by
  have h1 := fun w => ev_val htt (σ := List.replicate m .dead) (w := w) hk (show Under none a from trivial) (by simpa using hw) (sat_dead β m w) (ev_nil _ h)
  simpa using (h1 default).2
theorem allK_spec {f : Nat × Oper → Prop} : ∀ {l : List (Nat × Oper)}, allK f l → ∀ x ∈ l, f x
  | [], _, x, hx => by cases hx
  | [y], h, x, hx => by
    cases List.mem_singleton.1 hx
    exact h
  | y :: z :: l, h, x, hx => by
    have h : f y ∧ allK f (z :: l) := h
    rcases List.mem_cons.1 hx with rfl | hx
    · exact h.1
    · exact allK_spec h.2 x hx

/-- The two books of what has come up. -/
structure Books (n : Nat) (ls : List Nat) (la : Array Bool) : Prop where
  size : la.size = n
  lt : ∀ i ∈ ls, i < n
  at_ : ∀ i, i < n → (la[i]? = some true ↔ i ∈ ls)
theorem Books.init (n : Nat) : Books n [] (Array.replicate n false) := ⟨by simp, by simp, fun i hi => by simp [hi]⟩
theorem Books.set {n : Nat} {ls : List Nat} {la : Array Bool} (h : Books n ls la) {i : Nat} (hi : i < n) : Books n (i :: ls) (la.setIfInBounds i true) := by
  refine ⟨by simp [h.size], fun j hj => ?_, fun j hj => ?_⟩
  · rcases List.mem_cons.1 hj with rfl | hj
    · exact hi
    · exact h.lt j hj
  · have := h.at_ j hj
    rw [Array.getElem?_setIfInBounds]
    by_cases hij : i = j
    · subst hij; simp [h.size, hi]
    · simp [hij, this, Ne.symm hij]
theorem Books.getD_true {n : Nat} {ls : List Nat} {la : Array Bool} (h : Books n ls la) {i : Nat} (hi : i < n) : la.getD i true = false ↔ i ∉ ls := by
  rw [← h.at_ i hi]
  have hlt : i < la.size := by rw [h.size]; exact hi
  simp [Array.getD_eq_getD_getElem?, hlt]
theorem Books.getD_false {n : Nat} {ls : List Nat} {la : Array Bool} (h : Books n ls la) {i : Nat} : la.getD i false = true ↔ i ∈ ls := by
  rcases Nat.lt_or_ge i n with hi | hi
  · rw [← h.at_ i hi]
    have hlt : i < la.size := by rw [h.size]; exact hi
    simp [Array.getD_eq_getD_getElem?, hlt]
  · have hge : la.size ≤ i := by rw [h.size]; exact hi
    constructor
    · intro h'; simp [Array.getD_eq_getD_getElem?, Array.getElem?_eq_none hge] at h'
    · intro h'; exact absurd (h.lt i h') (by omega)
theorem books_ready {all : List Oper} {ls : List Nat} {la : Array Bool} (h : Books all.length ls la) {j : Nat} : j ∈ Region.ready .any all.toArray la ↔ ∃ o, (j, o) ∈ readyT ls (tabFrom 0 all) := by
  rw [mem_ready]
  constructor
  · rintro ⟨h0, o, ho, hall⟩
    have hlt : j < all.length := by have := (Array.getElem?_eq_some_iff.1 ho).1; simpa using this
    refine ⟨o, mem_readyT.2 ⟨depsOf o, mem_tabFrom.2 ⟨Nat.zero_le _, by simpa using ho, rfl⟩, (h.getD_true hlt).1 h0, fun d hd => ?_⟩⟩
    obtain ⟨e, he, hb, rfl⟩ := mem_depsOf.1 hd
    exact h.getD_false.1 (hall e he hb)
  · rintro ⟨o, ho⟩
    obtain ⟨ds, h1, h2, h3⟩ := mem_readyT.1 ho
    obtain ⟨_, h4, h5⟩ := mem_tabFrom.1 h1
    simp only [Nat.sub_zero] at h4 h5
    subst h5
    have hlt : j < all.length := (List.getElem?_eq_some_iff.1 h4).1
    refine ⟨(h.getD_true hlt).2 h2, o, by simpa using h4, fun e he hb => h.getD_false.2 (h3 _ (mem_depsOf.2 ⟨e, he, hb, rfl⟩))⟩
theorem ready_op {all : List Oper} {ls : List Nat} {i : Nat} {o : Oper} (h : (i, o) ∈ readyT ls (tabFrom 0 all)) : all.toArray[i]? = some o ∧ i < all.length := by
  obtain ⟨ds, h1, _⟩ := mem_readyT.1 h
  obtain ⟨_, h4, _⟩ := mem_tabFrom.1 h1
  simp only [Nat.sub_zero] at h4
  exact ⟨by simpa using h4, (List.getElem?_eq_some_iff.1 h4).1⟩

/-- No panic in it. -/
def NoPan (Q : Exit → Act → World → Prop) : Exit → Act → World → Prop
  | .panic _, _, _ => False
  | e, a, w => Q e a w
theorem noPan_imp {Q : Exit → Act → World → Prop} (e : Exit) (a : Act) (w : World) (h : NoPan Q e a w) : Q e a w := by
  cases e <;> first | exact h | exact (h : False).elim
/-- Behind one operation. -/
def Behind (Q : Exit → Act → World → Prop) (R : Act → World → Prop) : Exit → Act → World → Prop
  | .normal, a, w => R a w
  | .panic _, _, _ => False
  | e, a, w => Q e a w

section
variable {X : Cx} {tt : TT} {ct : CT} {all : List Oper} {Q : Exit → Act → World → Prop}

abbrev Cx.pl (X : Cx) : Cx := { X with fe := none }
theorem Rep.pl {X : Cx} {β : Nat → Bd} {fr : Fr} {σ : List Ch} {a : Act} {w : World} (hr : Rep X β fr σ a w) : Rep X.pl β fr σ a w := ⟨hr.defers, hr.size, hr.knows, hr.frwf, hr.mem, hr.same, hr.agree, hr.fits, hr.src⟩
theorem Rep.lp {X : Cx} {β : Nat → Bd} {fr : Fr} {σ : List Ch} {a : Act} {w : World} (hr : Rep X.pl β fr σ a w) : Rep X β fr σ a w := ⟨hr.defers, hr.size, hr.knows, hr.frwf, hr.mem, hr.same, hr.agree, hr.fits, hr.src⟩
theorem wpOp_of_list {P : Program} {ops : Array Oper} {R : Act → World → Prop} {i : Nat} {o : Oper} {a : Act} {w : World} (hi : ops[i]? = some o) (h : wpLst none P ops (Behind Q R) [o] a w) : wpOp P ops (NoPan Q) i R a w := by
  unfold wpOp
  rw [hi]
  simp only
  unfold wpLst wpList at h
  split
  · rename_i hw
    rw [if_pos hw] at h
    rcases h with h | ⟨h1, a', w', h2⟩
    · exact .inl (oper_wp_Q (fun _ _ _ h => (h : False).elim) (fun ⟨a', w', h⟩ => ⟨a', w', h⟩) (Oper.wp_mono (K := wpList P ops (Behind Q R) []) (fun a w h => h) h))
    · exact .inr ⟨h1, a', w', h2⟩
  · rename_i hw
    rw [if_neg hw] at h
    exact h

theorem exH_sound (htt : TTok X.P tt) (hct : CTok X.P ct) {K : Fr → List Ch → Prop} (hK : ∀ fr σ, K fr σ → WpE X Q .normal fr σ) (hns : Region.noSelect all.toArray = true) :
    ∀ (f : Nat) (ls : List Nat) (la : Array Bool) (fr : Fr) (σ : List Ch), Books all.length ls la → WhenIn (gsOf all all) fr → exH tt ct X.n (gsOf all all) all (tabFrom 0 all) K f ls fr σ →
      ∀ β a w, Rep X β fr σ a w → wpAny X.P .any all.toArray (NoPan Q) f la a w
  | 0, ls, la, fr, σ, hb, hw, h, β, a, w, hr => by
    replace h : (match readyT ls (tabFrom 0 all) with
      | [] => K fr σ
      | _ :: _ => False) := h
    split at h
    · rename_i he
      have hnil : Region.ready .any all.toArray la = [] := List.eq_nil_iff_forall_not_mem.2 fun j hj => by
        obtain ⟨o, ho⟩ := (books_ready hb).1 hj
        rw [he] at ho; cases ho
      exact ⟨hnil, (hK fr σ h).h β a w hr⟩
    · exact h.elim
  | f + 1, ls, la, fr, σ, hb, hw, h, β, a, w, hr => by
    have ih := exH_sound htt hct hK hns f
    replace h : exHb tt ct X.n (gsOf all all) all (tabFrom 0 all) K (exH tt ct X.n (gsOf all all) all (tabFrom 0 all) K f) ls fr σ := h
    unfold exHb at h
    have step : ∀ {i : Nat} {o : Oper}, (i, o) ∈ readyT ls (tabFrom 0 all) → stepH tt ct X.n (gsOf all all) all o (exH tt ct X.n (gsOf all all) all (tabFrom 0 all) K f (i :: ls)) fr σ →
        wpLst none X.P all.toArray (Behind Q (wpAny X.P .any all.toArray (NoPan Q) f (la.setIfInBounds i true))) [o] a w := by
      intro i o hio hs
      have hop := ready_op hio
      refine (exL_sound (X := X.pl) (Q := Behind Q (wpAny X.P .any all.toArray (NoPan Q) f (la.setIfInBounds i true))) (all := all) htt hct (fun l fr' σ' hw' hk => ?_) [o] fr σ hw hs).h β a w hr.pl
      cases l with
      | nil => exact ⟨fun β a w hr => wpList_nil (ih (i :: ls) _ fr' σ' (hb.set hop.2) hw' hk β a w hr.lp)⟩
      | cons _ _ => exact (hk : False).elim
    split at h
    · rename_i he
      have hnil : Region.ready .any all.toArray la = [] := List.eq_nil_iff_forall_not_mem.2 fun j hj => by
        obtain ⟨o, ho⟩ := (books_ready hb).1 hj
        rw [he] at ho; cases ho
      exact wpAny_done (Q := NoPan Q) hnil ((hK fr σ h).h β a w hr) _
    · rename_i r rs he
      split at h
      · rename_i i d v g hp
        obtain ⟨o, hm, hc, hfree⟩ := pickD_spec hp
        obtain ⟨hd, hput, hev⟩ := calmV_spec hc
        rw [← he] at hm
        have hop := ready_op hm
        have hsp := canPut_spec hw hput
        have hap : ∀ j oj, all.toArray[j]? = some oj → j ≠ i → la.getD j true = false → (∀ e ∈ oj.after, Region.binds .any e = true → e.on ≠ i) → o.apart all.toArray oj = true := by
          intro j oj hj hne hun hno
          have hlt : j < all.length := by have := (Array.getElem?_eq_some_iff.1 hj).1; simpa using this
          exact freeT_spec hfree j oj (depsOf oj) (mem_tabFrom.2 ⟨Nat.zero_le _, by simpa using hj, rfl⟩) hne ((hb.getD_true hlt).1 hun) (fun hd => by
            obtain ⟨e, he', hb', hon⟩ := mem_depsOf.1 hd
            exact hno e he' hb' hon)
        have put : ∀ x, Yields X.P all.toArray o x a → v.wf σ.length → WhenIn (gsOf all all) ((d, v, g) :: fr) →
            (match (generalizing := false) g with | none => x = v.den β | some (t, p) => t ≠ d ∧ (a.tmps[t]? = some (.bool p) → x = v.den β) ∧ (a.tmps[t]? ≠ some (.bool p) → x = undef)) →
            wpAny X.P .any all.toArray (NoPan Q) (f + 1) la a w := by
          intro x hy hv hwn hx
          refine wpAny_first hop.1 (Region.noSelect_spec hns) (fun c a w h => (h : False).elim) f la a w hap ((books_ready hb).2 ⟨o, hm⟩) hy ?_
          rw [hd]
          exact ih (i :: ls) _ ((d, v, g) :: fr) σ (hb.set hop.2) hwn h β _ w (rep_put hr hsp (fun _ _ => rfl) (Nat.le_refl _) hr.mem hv hr.src hx)
        rcases hev with ⟨hgi, rfl, hev⟩ | ⟨t, p, b, hgi, htd, rfl, hev, hvw⟩
        · have hgn := guardI_no hgi
          have hwant : Region.wanted o (yielded all.toArray a.tmps) = true := by simp [Region.wanted, hgn]
          exact put _ (.inl ⟨hwant, calm_runs htt hr.knows (show Under none a from trivial) hr.frwf hev⟩) (calm_wf htt hr.knows hr.frwf hev) (hw.cons fun _ _ h => by cases h) rfl
        · obtain ⟨j, hg, ht, htg, hiff, _⟩ := guardI_yes hgi
          have ha := hiff β a hr.knows
          have hwn : WhenIn (gsOf all all) ((d, v, some (t, p)) :: fr) := hw.cons (fun _ _ h => by cases h; exact htg)
          by_cases hbp : b = p
          · exact put (v.den β) (.inl ⟨(wanted_iff hg ht a).2 (ha.2 hbp), calm_runs htt hr.knows (show Under (some (t, p)) a from ha.2 hbp) hr.frwf hev⟩) (FV.wfB_spec hvw) hwn ⟨htd, fun _ => rfl, fun hn => absurd (ha.2 hbp) hn⟩
          · refine put undef (.inr ⟨?_, rfl⟩) (FV.wfB_spec hvw) hwn ⟨htd, fun hp => absurd (ha.1 hp) hbp, fun _ => rfl⟩
            cases hww : Region.wanted o (yielded all.toArray a.tmps) with
            | false => rfl
            | true => exact absurd (ha.1 ((wanted_iff hg ht a).1 hww)) hbp
      · rename_i hp
        have hs := allK_spec h
        rw [← he] at hs
        have hne : Region.ready .any all.toArray la ≠ [] := fun hnil => by
          have : r ∈ readyT ls (tabFrom 0 all) := by rw [he]; exact List.mem_cons_self
          have := (books_ready hb).2 ⟨r.2, this⟩
          rw [hnil] at this; cases this
        refine ⟨fun h0 => absurd h0 hne, fun j hj => ?_⟩
        obtain ⟨o, ho⟩ := (books_ready hb).1 hj
        exact wpOp_of_list (ready_op ho).1 (step ho (hs (j, o) ho))

theorem region_ways (hm : X.P.follows .mixedOrders = true) (htt : TTok X.P tt) (hct : CTok X.P ct) (ks : List Nat) {id : Nat} {ops : Array Oper} {fr : Fr} {σ : List Ch} (hns : noSel ops.toList = true) (hp : plainFr fr = true)
    {K : Fr → List Ch → Prop} (hK : ∀ fr σ, K fr σ → WpE X Q .normal fr σ)
    (h : exH tt ct X.n (gsOf ops.toList ops.toList) ops.toList (tabFrom 0 ops.toList) (fun fr σ => keepK ks fr fun fr' => K fr' σ) ops.toList.length [] fr σ) :
    WpC X (.region id ops true) Q fr σ := by
  refine ⟨fun β a w hr => ?_⟩
  have h1 := exH_sound (X := X) (Q := Only Q) htt hct (fun fr' σ' hk => by
    rw [keepK_eq] at hk
    exact ⟨fun β a w hr => (hK _ _ hk).h β a w (hr.keep ks)⟩) (noSel_spec hns) ops.toList.length [] _ fr σ (Books.init _) (plainFr_spec hp) h β a { w with drawn := w.drawn + 1 }
    ⟨hr.defers, hr.size, hr.knows, hr.frwf, hr.mem.grow (fun _ _ => rfl), hr.same.trans ⟨rfl, rfl, rfl, Nat.le_refl _⟩, hr.agree, hr.fits, hr.src⟩
  refine cd_any hm (noSel_def hns) ?_
  have e : NoPan (Only Q) = Only Q := by funext e a w; cases e <;> rfl
  rw [e] at h1
  simpa using h1

end
end Go.Sx

namespace Go.Sx
open Go

inductive Fm where
  | thn (y : Code)
  | blk (id : Nat)
  | lp (K : Act → World → Prop)
  | rnd (c : Code) (n : Nat)

def stkQ (m : Md) (P : Program) (Q : Exit → Act → World → Prop) : List Fm → Exit → Act → World → Prop
  | [] => Q
  | .thn y :: s => Exit.then (fun a w => cdW m P y (stkQ m P Q s) a w) (stkQ m P Q s)
  | .blk id :: s => Exit.inBlock id (stkQ m P Q s)
  | .lp K :: s => Exit.then K (stkQ m P Q s)
  | .rnd c n :: s => Exit.then (rounds m P c (stkQ m P Q s) n) (stkQ m P Q s)

/-- What is owed where the executor stops: before a piece of code, within a region, at a leaving, at a loop's round's end. -/
structure Jd where
  c : List Fm → Code → Fr → List Ch → Prop
  l : List Fm → List Oper → List Oper → Fr → List Ch → Prop
  e : Exit → Fr → List Ch → Prop
  lp : List Fm → (Act → World → Prop) → Fr → List Ch → Prop

structure JOk (X : Cx) (Q : Exit → Act → World → Prop) (J : Jd) : Prop where
  c : ∀ s c fr σ, J.c s c fr σ → WpC X c (stkQ X.fe X.P Q s) fr σ
  l : ∀ s all l fr σ, J.l s all l fr σ → WpL X all (stkQ X.fe X.P Q s) l fr σ
  e : ∀ e fr σ, J.e e fr σ → WpE X Q e fr σ
  lp : ∀ s K fr σ, J.lp s K fr σ → WpE X (Exit.then K (stkQ X.fe X.P Q s)) .normal fr σ

abbrev jTop (X : Cx) (Q : Exit → Act → World → Prop) : Jd :=
  { c := fun s c fr σ => WpC X c (stkQ X.fe X.P Q s) fr σ
    l := fun s all l fr σ => WpL X all (stkQ X.fe X.P Q s) l fr σ
    e := fun e fr σ => WpE X Q e fr σ
    lp := fun s K fr σ => WpE X (Exit.then K (stkQ X.fe X.P Q s)) .normal fr σ }
theorem jTop_ok (X : Cx) (Q : Exit → Act → World → Prop) : JOk X Q (jTop X Q) := ⟨fun _ _ _ _ h => h, fun _ _ _ _ _ h => h, fun _ _ _ h => h, fun _ _ _ _ h => h⟩

/-- Leaving through the frames of code. -/
def unwb (J : Jd) (go : List Fm → Code → Fr → List Ch → Prop) (m : Fm) (s : List Fm) (ih : Exit → Fr → List Ch → Prop) (e : Exit) (fr : Fr) (σ : List Ch) : Prop := match m with
  | .thn y => match e with
    | .normal => go s y fr σ
    | e => ih e fr σ
  | .blk id => match e with
    | .exit id' => match Nat.beq id' id with
      | true => ih .normal fr σ
      | false => ih (.exit id') fr σ
    | e => ih e fr σ
  | .lp K => match e with
    | .normal => J.lp s K fr σ
    | e => ih e fr σ
  | .rnd c n => match e with
    | .normal => match n with
      | 0 => False
      | n + 1 => go (.rnd c n :: s) c fr σ
    | e => ih e fr σ
noncomputable def unw (J : Jd) (go : List Fm → Code → Fr → List Ch → Prop) (s : List Fm) : Exit → Fr → List Ch → Prop :=
  List.rec (motive := fun _ => Exit → Fr → List Ch → Prop) (fun e fr σ => J.e e fr σ) (fun m s ih e fr σ => unwb J go m s ih e fr σ) s

/-- What follows a region's end, or where the executor stopped. -/
def atEnd (J : Jd) (ks : List Nat) (all : List Oper) (go : List Fm → Code → Fr → List Ch → Prop) (s : List Fm) : List Oper → Fr → List Ch → Prop
  | [], fr, σ => keepK ks fr fun fr' => unw J go s .normal fr' σ
  | o :: l, fr, σ => J.l s all (o :: l) fr σ

def exCb (tt : TT) (ct : CT) (n : Nat) (J : Jd) (ks stops : List Nat) (ih : List Fm → Code → Fr → List Ch → Prop) (s : List Fm) (c : Code) (fr : Fr) (σ : List Ch) : Prop := match c with
    | .skip => unw J ih s .normal fr σ
    | .ret => unw J ih s .ret fr σ
    | .exit id => unw J ih s (.exit id) fr σ
    | .seq x y => ih (.thn y :: s) x fr σ
    | .block id c => ih (.blk id :: s) c fr σ
    | .cond q x y => match opd fr none q with
      | some (.s (.bool b)) => (b = true → ih s x fr σ) ∧ (b = false → ih s y fr σ)
      | _ => J.c s (.cond q x y) fr σ
    | .region id ops false => match plainFr fr with
      | true => forceL ops.toList fun all => forceL (gsOf all all) fun gs =>
          exL tt ct n gs stops all (atEnd J ks all ih s) all fr σ
      | false => J.c s (.region id ops false) fr σ
    | .region id ops true => match plainFr fr with
      | true => forceL ops.toList fun all => forceL (gsOf all all) fun gs => match effy ct all with
        | false => exN tt ct n gs all (fun fr σ => keepK ks fr fun fr' => unw J ih s .normal fr' σ) all fr σ
        | true => match noSel all, oneWay all.toArray (tabFrom 0 all) all.length [] with
          | true, true => forceL (tabFrom 0 all) fun tab => exH tt ct n gs all tab (fun fr σ => keepK ks fr fun fr' => unw J ih s .normal fr' σ) all.length [] fr σ
          | _, _ => J.c s (.region id ops true) fr σ
      | false => J.c s (.region id ops true) fr σ
    | c => J.c s c fr σ
noncomputable def exC (tt : TT) (ct : CT) (n : Nat) (J : Jd) (ks stops : List Nat) (f : Nat) : List Fm → Code → Fr → List Ch → Prop :=
  Nat.rec (motive := fun _ => List Fm → Code → Fr → List Ch → Prop) (fun s c fr σ => J.c s c fr σ) (fun _ ih s c fr σ => exCb tt ct n J ks stops ih s c fr σ) f

/-- The drawn regions' orders may all be taken as listed. -/
def drOk : Code → Bool
  | .region _ ops true => match noSel ops.toList with
    | true => Region.lexB .any ops
    | false => false
  | .seq a b => match drOk a with
    | true => drOk b
    | false => false
  | .cond _ a b => match drOk a with
    | true => drOk b
    | false => false
  | .block _ b => drOk b
  | .loop b => drOk b
  | .scope b => drOk b
  | _ => true
def stOk : List Fm → Bool
  | [] => true
  | .thn y :: s => match drOk y with
    | true => stOk s
    | false => false
  | .rnd c _ :: s => match drOk c with
    | true => stOk s
    | false => false
  | _ :: s => stOk s
theorem stOk_thn {y : Code} {s : List Fm} (h : stOk (.thn y :: s) = true) : drOk y = true ∧ stOk s = true := by
  unfold stOk at h; split at h
  · rename_i h'; exact ⟨h', h⟩
  · cases h
theorem stOk_rnd {c : Code} {n : Nat} {s : List Fm} (h : stOk (.rnd c n :: s) = true) : drOk c = true ∧ stOk s = true := by
  unfold stOk at h; split at h
  · rename_i h'; exact ⟨h', h⟩
  · cases h
theorem stOk_thn' {y : Code} {s : List Fm} (h : drOk y = true) (h' : stOk s = true) : stOk (.thn y :: s) = true := by unfold stOk; rw [h]; exact h'
theorem drOk_seq {a b : Code} (h : drOk (.seq a b) = true) : drOk a = true ∧ drOk b = true := by
  unfold drOk at h; split at h
  · rename_i h'; exact ⟨h', h⟩
  · cases h
theorem drOk_cond {q : Operand} {a b : Code} (h : drOk (.cond q a b) = true) : drOk a = true ∧ drOk b = true := by
  unfold drOk at h; split at h
  · rename_i h'; exact ⟨h', h⟩
  · cases h

section
variable {X : Cx} {tt : TT} {ct : CT} {Q : Exit → Act → World → Prop} {J : Jd}

theorem unw_sound (hJ : JOk X Q J) {go : List Fm → Code → Fr → List Ch → Prop} (hgo : ∀ s c fr σ, drOk c = true → stOk s = true → go s c fr σ → WpC X c (stkQ X.fe X.P Q s) fr σ) :
    ∀ (s : List Fm) (e : Exit) (fr : Fr) (σ : List Ch), stOk s = true → unw J go s e fr σ → WpE X (stkQ X.fe X.P Q s) e fr σ
  | [], e, fr, σ, _, h => hJ.e e fr σ h
  | .thn y :: s, e, fr, σ, hs, h => by
    have ih := fun e => unw_sound hJ hgo s e fr σ (stOk_thn hs).2
    replace h : unwb J go (.thn y) s (unw J go s) e fr σ := h
    unfold unwb at h
    simp only at h
    split at h
    · exact e_then (hgo s y fr σ (stOk_thn hs).1 (stOk_thn hs).2 h)
    · rename_i e' hne
      refine ⟨fun β a w hr => ?_⟩
      have := (ih _ h).h β a w hr
      show Exit.then _ _ _ a w
      cases e <;> first | exact this | exact absurd rfl hne
  | .blk id :: s, e, fr, σ, hs, h => by
    have ih := fun e => unw_sound hJ hgo s e fr σ hs
    replace h : unwb J go (.blk id) s (unw J go s) e fr σ := h
    unfold unwb at h
    simp only at h
    split at h
    · rename_i id'
      split at h
      · rename_i hb
        have := Nat.eq_of_beq_eq_true hb
        subst this
        exact e_blk_here (ih _ h)
      · rename_i hb
        exact e_blk_pass hb (ih _ h)
    · rename_i e' hne
      refine ⟨fun β a w hr => ?_⟩
      have := (ih _ h).h β a w hr
      show Exit.inBlock _ _ _ a w
      cases e <;> first | exact this | exact absurd rfl (hne _)
  | .lp K :: s, e, fr, σ, hs, h => by
    have ih := fun e => unw_sound hJ hgo s e fr σ hs
    replace h : unwb J go (.lp K) s (unw J go s) e fr σ := h
    unfold unwb at h
    simp only at h
    split at h
    · exact hJ.lp s K fr σ h
    · rename_i e' hne
      refine ⟨fun β a w hr => ?_⟩
      have := (ih _ h).h β a w hr
      show Exit.then _ _ _ a w
      cases e <;> first | exact this | exact absurd rfl hne
  | .rnd c n :: s, e, fr, σ, hs, h => by
    have ih := fun e => unw_sound hJ hgo s e fr σ (stOk_rnd hs).2
    replace h : unwb J go (.rnd c n) s (unw J go s) e fr σ := h
    unfold unwb at h
    simp only at h
    split at h
    · split at h
      · exact h.elim
      · rename_i n
        exact ⟨fun β a w hr => (hgo (.rnd c n :: s) c fr σ (stOk_rnd hs).1 hs h).h β a w hr⟩
    · rename_i e' hne
      refine ⟨fun β a w hr => ?_⟩
      have := (ih _ h).h β a w hr
      show Exit.then _ _ _ a w
      cases e <;> first | exact this | exact absurd rfl hne

theorem atEnd_sound (hJ : JOk X Q J) {ks : List Nat} {all : List Oper} {go : List Fm → Code → Fr → List Ch → Prop} (hgo : ∀ s c fr σ, drOk c = true → stOk s = true → go s c fr σ → WpC X c (stkQ X.fe X.P Q s) fr σ) {s : List Fm} (hs : stOk s = true) (l : List Oper) (fr : Fr) (σ : List Ch)
    (h : atEnd J ks all go s l fr σ) : WpL X all (stkQ X.fe X.P Q s) l fr σ := by
  cases l with
  | nil =>
    simp only [atEnd, keepK_eq] at h
    have := unw_sound hJ hgo s _ _ _ hs h
    exact ⟨fun β a w hr => wpList_nil (this.h β a w (hr.keep ks))⟩
  | cons o l => exact hJ.l s all _ fr σ h

theorem drOk_draw {id : Nat} {ops : Array Oper} (h : drOk (.region id ops true) = true) : noSel ops.toList = true ∧ Region.lexB .any ops = true := by
  unfold drOk at h; split at h
  · rename_i h'; exact ⟨h', h⟩
  · cases h

theorem region_draw (hm : X.P.follows .mixedOrders = true) (htt : TTok X.P tt) (hct : CTok X.P ct) (ks : List Nat) {id : Nat} {ops : Array Oper} {s : List Fm} {fr : Fr} {σ : List Ch} (hB : noSel ops.toList = true ∧ Region.lexB .any ops = true) (hp : plainFr fr = true)
    {K : Fr → List Ch → Prop} (hK : ∀ fr σ, K fr σ → WpE X (stkQ X.fe X.P Q s) .normal fr σ)
    (h : exN tt ct X.n (gsOf ops.toList ops.toList) ops.toList (fun fr σ => keepK ks fr fun fr' => K fr' σ) ops.toList fr σ) :
    WpC X (.region id ops true) (stkQ X.fe X.P Q s) fr σ := by
  have h1 := exN_sound (X := X) (Q := stkQ X.fe X.P Q s) htt hct (fun fr' σ' hk => by
    rw [keepK_eq] at hk
    exact ⟨fun β a w hr => (hK _ _ hk).h β a w (hr.keep ks)⟩) ops.toList fr σ (plainFr_spec hp) h
  refine ⟨fun β a w hr => ?_⟩
  have hdrew : ∀ w : World, CC X β σ w → Rep X β fr σ a w := fun w hC => ⟨hr.defers, hr.size, hr.knows, hr.frwf, hC.1, hC.2, hr.agree, hr.fits, hr.src⟩
  have hC0 : CC X β σ { w with drawn := w.drawn + 1 } := ⟨hr.mem.grow (fun _ _ => rfl), hr.same.trans ⟨rfl, rfl, rfl, Nat.le_refl _⟩⟩
  have := h1.h β σ β a hdrew ⟨_, hC0⟩
  refine cd_quiet (C := CC X β σ) hm (noSel_def hB.1) hB.2 hC0 ?_
  simpa using this

theorem exC_sound (htt : TTok X.P tt) (hct : CTok X.P ct) (hJ : JOk X Q J) (ks stops : List Nat) : ∀ (f : Nat) (s : List Fm) (c : Code) (fr : Fr) (σ : List Ch), drOk c = true → stOk s = true → exC tt ct X.n J ks stops f s c fr σ → WpC X c (stkQ X.fe X.P Q s) fr σ
  | 0, s, c, fr, σ, _, _, h => hJ.c s c fr σ h
  | f + 1, s, c, fr, σ, hd, hs, h => by
    have ih := exC_sound htt hct hJ ks stops f
    have hu := fun e fr σ => unw_sound hJ (fun s c fr σ => ih s c fr σ) s e fr σ hs
    replace h : exCb tt ct X.n J ks stops (exC tt ct X.n J ks stops f) s c fr σ := h
    unfold exCb at h
    split at h
    · exact c_skip (hu _ _ _ h)
    · exact c_ret (hu _ _ _ h)
    · exact c_exit (hu _ _ _ h)
    · exact c_seq (ih _ _ _ _ (drOk_seq hd).1 (stOk_thn' (drOk_seq hd).2 hs) h)
    · exact c_block (ih (.blk _ :: s) _ _ _ hd hs h)
    · split at h
      · rename_i b hb
        exact c_if hb (fun hb' => ih _ _ _ _ (drOk_cond hd).1 hs (h.1 hb')) (fun hb' => ih _ _ _ _ (drOk_cond hd).2 hs (h.2 hb'))
      · exact hJ.c _ _ _ _ h
    · rename_i id ops
      split at h
      · rename_i hp
        rw [forceL_eq, forceL_eq] at h
        have h1 := exL_sound (X := X) (Q := stkQ X.fe X.P Q s) htt hct (all := ops.toList) (fun l fr σ _ => atEnd_sound hJ (fun s c fr σ => ih s c fr σ) hs l fr σ) ops.toList fr σ (plainFr_spec hp) h
        refine ⟨fun β a w hr => ?_⟩
        have := cd_region (id := id) (l := ops.toList) (h1.h β a w hr)
        simpa using this
      · exact hJ.c _ _ _ _ h
    · rename_i id ops
      split at h
      · rename_i hp
        rw [forceL_eq, forceL_eq] at h
        split at h
        · exact region_draw (TTok.mo htt) htt hct ks (drOk_draw hd) hp (fun fr σ hk => unw_sound hJ (fun s c fr σ => ih s c fr σ) s _ fr σ hs hk) h
        · split at h
          · rename_i hns _
            rw [forceL_eq] at h
            exact region_ways (TTok.mo htt) htt hct ks hns hp (fun fr σ hk => unw_sound hJ (fun s c fr σ => ih s c fr σ) s _ fr σ hs hk) h
          · exact hJ.c _ _ _ _ h
      · exact hJ.c _ _ _ _ h
    · exact hJ.c _ _ _ _ h

/-- RUNNING code. -/
theorem c_run (htt : TTok X.P tt) (hct : CTok X.P ct) (ks stops : List Nat) (f : Nat) {c : Code} {fr : Fr} {σ : List Ch} (hd : drOk c = true) (h : exC tt ct X.n (jTop X Q) ks stops f [] c fr σ) : WpC X c Q fr σ := exC_sound htt hct (jTop_ok X Q) ks stops f [] c fr σ hd rfl h
theorem c_run' (htt : TTok X.P tt) (hct : CTok X.P ct) (ks stops : List Nat) (f : Nat) {s : List Fm} {c : Code} {fr : Fr} {σ : List Ch} (hd : drOk c = true) (hs : stOk s = true) (h : exC tt ct X.n (jTop X Q) ks stops f s c fr σ) : WpC X c (stkQ X.fe X.P Q s) fr σ := exC_sound htt hct (jTop_ok X Q) ks stops f s c fr σ hd hs h

/-- EVERY WAY through a drawn region. -/
theorem c_ways (htt : TTok X.P tt) (hct : CTok X.P ct) (ks : List Nat) {id : Nat} {ops : Array Oper} {fr : Fr} {σ : List Ch} (hns : noSel ops.toList = true) (hp : plainFr fr = true)
    (h : forceL σ fun σ => forceL ops.toList fun all => forceL (gsOf all all) fun gs => forceL (tabFrom 0 all) fun tab => exH tt ct X.n gs all tab (fun fr σ => keepK ks fr fun fr' => WpE X Q .normal fr' σ) all.length [] fr σ) : WpC X (.region id ops true) Q fr σ := by
  rw [forceL_eq, forceL_eq, forceL_eq, forceL_eq] at h
  exact region_ways (TTok.mo htt) htt hct ks hns hp (fun _ _ h => h) h

/-- RUNNING ON within a region. -/
theorem l_run (htt : TTok X.P tt) (hct : CTok X.P ct) (ks stops : List Nat) (f : Nat) {all l : List Oper} {s : List Fm} {fr : Fr} {σ : List Ch} (hp : whenB (gsOf all all) fr = true) (hs : stOk s = true)
    (h : forceL σ fun σ => forceL (gsOf all all) fun gs => exL tt ct X.n gs stops all (atEnd (jTop X Q) ks all (exC tt ct X.n (jTop X Q) ks stops f) s) l fr σ) : WpL X all (stkQ X.fe X.P Q s) l fr σ := by
  rw [forceL_eq, forceL_eq] at h
  exact exL_sound (X := X) (Q := stkQ X.fe X.P Q s) htt hct (fun l fr σ _ => atEnd_sound (jTop_ok X Q) (fun s c fr σ => exC_sound htt hct (jTop_ok X Q) ks stops f s c fr σ) hs l fr σ) l fr σ (whenB_spec hp) h

/-- RUNNING ON at a leaving. -/
theorem e_run (htt : TTok X.P tt) (hct : CTok X.P ct) (ks stops : List Nat) (f : Nat) {s : List Fm} {e : Exit} {fr : Fr} {σ : List Ch} (hs : stOk s = true) (h : forceL σ fun σ => unw (jTop X Q) (exC tt ct X.n (jTop X Q) ks stops f) s e fr σ) : WpE X (stkQ X.fe X.P Q s) e fr σ := by
  rw [forceL_eq] at h
  exact unw_sound (jTop_ok X Q) (fun s c fr σ => exC_sound htt hct (jTop_ok X Q) ks stops f s c fr σ) s e fr σ hs h

end

/-! ### A function's code in place of a contract -/
def inRes (tt : TT) (rs : List ResultVar) (k : FV → List Ch → Prop) (fr : Fr) (σ : List Ch) : Prop := match resL tt fr σ rs with
  | some l => k (packF l) σ
  | none => False
def jIn (tt : TT) (rs : List ResultVar) (k : FV → List Ch → Prop) : Jd :=
  { c := fun _ _ _ _ => False
    l := fun _ _ _ _ _ => False
    e := fun e fr σ => match e with
      | .ret => inRes tt rs k fr σ
      | .normal => inRes tt rs k fr σ
      | _ => False
    lp := fun _ _ _ _ => False }

/-- The function's own code is run. -/
def inlS (tt : TT) (ct : CT) (n : Nat) (ks : List Nat) (rs : List ResultVar) (fuel : Nat) (c : Code) (args : List TV) (σ : List Ch) (k : FV → List Ch → Prop) : Option Prop :=
  match allB (TV.wfB σ.length) args, Nat.ble args.length n with
  | true, true => some (exC tt ct n (jIn tt rs k) ks [] fuel [] c (frameOf 0 args) σ)
  | _, _ => none

theorem inRes_leaves {X : Cx} {tt : TT} (htt : TTok X.P tt) {fr : Fr} {σ : List Ch} {fn : Func} {rs : List ResultVar} (hrs : fn.results = rs.toArray) {k : FV → List Ch → Prop} (h : inRes tt rs k fr σ) :
    ∀ β a w, Rep X β fr σ a w → X.ds = [] → a.defers = [] ∧ ∃ v, (results fn a.tmps).run X.P w = .ok v w ∧ Leaves X.φ X.w0 X.m X.β0 X.F (γ := FV × List Ch) (fun x => k x.1 x.2) (fun x => x.1) (fun x => x.2) (.returned v) w := by
  intro β a w hr hds
  unfold inRes at h
  split at h
  · rename_i l hl
    have hres := results_sound htt hr hrs hl
    exact ⟨hr.defers.trans hds, _, hres.1, (packF l, σ), β, h, hr.agree, hr.fits, rfl, hres.2, hr.mem, hr.same, hr.src⟩
  · exact h.elim

theorem inl_ok {P : Program} {tt : TT} {ct : CT} (htt : TTok P tt) (hct : CTok P ct) {f : FuncId} {fn : Func} {c : Code} {n : Nat} {ks : List Nat} {rs : List ResultVar} (fuel : Nat)
    (hf : P.funcs[f]? = some fn) (hb : fn.body = some c) (hn : fn.ntmps = n) (hrs : fn.results = rs.toArray) (hcal : Sx.Callee P f) (hd : drOk c = true) : StOk P f (inlS tt ct n ks rs fuel c) := by
  refine ⟨hcal, fun args σ k R h hR => ?_⟩
  unfold inlS at h
  split at h
  · rename_i h1 h2
    cases h
    refine enter hf hb hn h1 h2 fun φ w0 β0 F => ?_
    refine exC_sound (X := ⟨P, n, φ, w0, σ.length, β0, F, none, []⟩) htt hct (J := jIn tt rs k) ⟨fun _ _ _ _ h => h.elim, fun _ _ _ _ _ h => h.elim, ?_, fun _ _ _ _ h => h.elim⟩ ks [] fuel [] c _ _ hd rfl hR
    intro e fr σ' he
    cases e with
    | ret => exact ⟨fun β a w hr => inRes_leaves (X := ⟨P, n, φ, w0, σ.length, β0, F, none, []⟩) htt hrs he β a w hr rfl⟩
    | normal => exact ⟨fun β a w hr => inRes_leaves (X := ⟨P, n, φ, w0, σ.length, β0, F, none, []⟩) htt hrs he β a w hr rfl⟩
    | _ => exact he.elim
  · cases h

end Go.Sx
