/- The reference's Exec. -/
import Derived.Test.YtgmjidajikhimaaGreatWalkI
import Derived.Test.YtgmjidajikhimaaGreatWalkD
import Derived.Test.YtgmjidajikhimaaGreatWalkH
import Derived.Test.YtgmjidajikhimaaGreatSxC

namespace Go.Proofs
open Go Go.Sx
set_option maxRecDepth 10000
noncomputable abbrev eRfunction : Ent := .st (conS (P := Tryz.prog) (f := f_r28_function) fun cargs σ0 => match cargs, σ0 with
  | [.agg cs, .s (.sl 0 0 n cap), .agg [.int .u8 f, .int .i32 v]], [.view xs] => withCore cs fun k hk => some ⟨.ex (Ram × Core × Int × Ram) fun p => .ask (n = p.1.l.length ∧ xs = bytesI p.1.l ∧ (k.ok ∧ I32 v ∧ p.1.l.length ≤ cap) ∧ finR (Mach.fn ⟨k, 0, p.1⟩ f v) = p.2) (ROut p.1 p.2), fun K h => by
      obtain ⟨⟨m, r⟩, ⟨e1, e2, ⟨h1, h2, h3⟩, e3⟩, h⟩ := h
      dsimp only at e1 e2 h1 h2 h3 e3 h
      subst e1; subst e2; subst hk; subst e3
      exact rfunction_c k m cap f v h1 h2 h3 K h⟩
  | _, _ => none)
theorem long_fin {o : Int} {k : Core} {m : Ram} (h : isLong o = true) : finR (othX o ⟨k, 0, m⟩) = ((othX o ⟨k, 0, Ram.z0⟩).k, 0, m) := by
  simp only [isLong, Bool.or_eq_true, beq_iff_eq] at h
  rcases h with ((((((((((h | h) | h) | h) | h) | h) | h) | h) | h) | h) | h) <;> (subst h; rfl)
theorem alone_fin {o : Int} {k : Core} {m : Ram} (h : isAlone o = true) : finR (othX o ⟨k, 0, m⟩) = ((othX o ⟨k, 0, Ram.z0⟩).k, 0, m) := by
  simp only [isAlone, Bool.or_eq_true, beq_iff_eq] at h
  rcases h with ((((((((((((h | h) | h) | h) | h) | h) | h) | h) | h) | h) | h) | h) | h) <;> (subst h; rfl)
theorem oth_alone {o : Int} (h1 : isLong o = false) (h2 : isMem o = false) (h3 : isOth o = true) : isAlone o = true := by
  unfold isOth at h3
  simp only [Bool.or_eq_true, beq_iff_eq] at h3
  rcases h3 with ((((((((((((((((((((((((((((h | h) | h) | h) | h) | h) | h) | h) | h) | h) | h) | h) | h) | h) | h) | h) | h) | h) | h) | h) | h) | h) | h) | h) | h) | h) | h) | h) | h) <;> subst h <;> first | rfl | (exact absurd h1 (by decide)) | (exact absurd h2 (by decide))
theorem two_is (o b a : Int) : (twoV o b a).2.2 = isBin o := by unfold twoV; cases isBin o <;> rfl
theorem two_bin {o b a : Int} (h : isBin o = true) : twoV o b a = ((binV o b a).1, (binV o b a).2, true) := by unfold twoV; rw [h]; rfl
theorem long_is (o : Int) (k : Core) : (longV o k).2 = isLong o := by unfold longV; cases isLong o <;> rfl
theorem pri_eq (p : Int) : (bif p != 0 then p != 1 else false) = (p.fdiv 2 != 0) := by
  rw [Int.fdiv_eq_ediv_of_nonneg _ (by decide)]
  cases h : (p != 0) with
  | false => have : p = 0 := by simpa using h
             subst this; rfl
  | true =>
    have h0 : p ≠ 0 := by simpa using h
    show (p != 1) = _
    cases h1 : (p != 1) with
    | false => have : p = 1 := by simpa using h1
               subst this; rfl
    | true =>
      have h1' : p ≠ 1 := by simpa using h1
      symm
      simp only [bne_iff_ne, ne_eq]
      omega
noncomputable abbrev ctRx : CT := [(f_r28_Mine, .pure spRMine), (f_r28_function, eRfunction), (f_r28_two, .pure spTwo), (f_r28_long, .pure spLong), (f_r28_memory, eRmemory), (f_r28_alone, .pure spAlone)]
theorem ctRx_ok : CTok Tryz.prog ctRx := ⟨ceRMine, con_ok cal_r28_function _, ceTwo, ceLong, con_ok cal_r28_memory _, ceAlone, trivial⟩
set_option maxHeartbeats 8000000 in
theorem RExec_c (k : Core) (m : Ram) (cap : Nat) (fn o : Int) (hok : k.ok) (ho : I32 o) (hc : m.l.length ≤ cap) : Con Tryz.prog f_r28_Exec [.agg k.sv, .s (.sl 0 0 m.l.length cap), .agg [.int .u8 fn, .int .i32 o]] [.view (bytesI m.l)] (ROut m (exP k m fn o)) := by
  intro K hK
  refine enter fn_r28_Exec rfl nt_r28_Exec rfl rfl (fun φ w0 β0 F => ?_)
  refine c_run tt_ok ctRx_ok k_r28_Exec [] 120 (by kernel_rfl) ?_
  have hp := pri_eq k.pri
  refine ⟨fun h => ?_, fun h => ⟨trivial, fun h2 => ?_, fun h2 => ⟨fun h3 => ?_, fun h3 => ⟨fun h4 => ?_, fun h4 => ⟨⟨hok.b, hok.a⟩, fun h5 => ?_, fun h5 => ⟨hok, fun h6 => ?_, fun h6 => ?_⟩⟩⟩⟩⟩⟩
  · rw [show exP k m fn o = (.zero, 2, m) by unfold exP; rw [← hp, show (bif k.pri != 0 then k.pri != 1 else false) = true from h]; rfl] at hK
    refine WpE.into (aliasSlot 7 0 0 m.l.length cap rfl rfl) ?_
    refine fin_k tt_ok (rs := rs_r28_Exec) rfl rfl (hK cap hc) [0, 4] rfl ?_ rfl rfl rfl rfl
    rw [view_seg]; rfl
  · rw [show exP k m fn o = (.zero, 280, m) by unfold exP; rw [← hp, show (bif k.pri != 0 then k.pri != 1 else false) = false from h, show (!mineB fn o) = true from h2]; rfl] at hK
    refine WpE.into (aliasSlot 7 0 0 m.l.length cap rfl rfl) ?_
    refine fin_k tt_ok (rs := rs_r28_Exec) rfl rfl (hK cap hc) [0, 4] rfl ?_ rfl rfl rfl rfl
    rw [view_seg]; rfl
  · rw [show exP k m fn o = (.zero, 8, m) by unfold exP; rw [← hp, show (bif k.pri != 0 then k.pri != 1 else false) = false from h, show (!mineB fn o) = false from h2, show (!k.busy) = true from h3]; rfl] at hK
    refine WpE.into (aliasSlot 7 0 0 m.l.length cap rfl rfl) ?_
    refine fin_k tt_ok (rs := rs_r28_Exec) rfl rfl (hK cap hc) [0, 4] rfl ?_ rfl rfl rfl rfl
    rw [view_seg]; rfl
  all_goals
    have hx : exP k m fn o = finR (opX ⟨k, 0, m⟩ fn o) := by unfold exP; rw [← hp, show (bif k.pri != 0 then k.pri != 1 else false) = false from h, show (!mineB fn o) = false from h2, show (!k.busy) = false from h3]; rfl
    rw [hx] at hK
  · rw [show opX ⟨k, 0, m⟩ fn o = Mach.fn ⟨k, 0, m⟩ fn o by unfold opX; rw [show (fn != 15) = true from h4]; rfl] at hK
    obtain ⟨r, hr⟩ : ∃ r, finR (Mach.fn ⟨k, 0, m⟩ fn o) = r := ⟨_, rfl⟩
    rw [hr] at hK
    obtain ⟨k', e', m'⟩ := r
    refine ⟨(m, k', e', m'), ⟨rfl, rfl, ⟨hok, ho, hc⟩, hr⟩, fun c h2 => ?_⟩
    exact fin_k tt_ok (rs := rs_r28_Exec) rfl rfl (hK c h2) [0, 4] rfl rfl rfl rfl rfl rfl
  all_goals
    have hg : (fn != 15) = false := h4
    have h5' := h5
    rw [two_is] at h5'
    have hm : (isBin o || isOth o) = true := by
      have : mineB fn o = true := by simpa using h2
      unfold mineB at this; rw [hg] at this; exact this
  · rw [show opX ⟨k, 0, m⟩ fn o = ⟨binK o k, 0, m⟩ by unfold opX; rw [hg, h5']; rfl] at hK
    rw [two_bin h5'] at *
    refine WpE.into (aliasSlot 7 0 0 m.l.length cap rfl rfl) ?_
    refine fin_k tt_ok (rs := rs_r28_Exec) rfl rfl (hK cap hc) [0, 4] rfl ?_ rfl rfl rfl rfl
    rw [view_seg]; rfl
  all_goals
    rw [show opX ⟨k, 0, m⟩ fn o = othX o ⟨k, 0, m⟩ by unfold opX; rw [hg, h5']; rfl] at hK
    have h6' := h6
    rw [long_is] at h6'
  · rw [long_fin h6'] at hK
    rw [← show (longV o k).1 = (othX o ⟨k, 0, Ram.z0⟩).k by unfold longV; rw [h6']; rfl] at hK
    refine WpE.into (aliasSlot 7 0 0 m.l.length cap rfl rfl) ?_
    refine fin_k tt_ok (rs := rs_r28_Exec) rfl rfl (hK cap hc) [0, 5] rfl ?_ rfl rfl rfl rfl
    rw [view_seg]; rfl
  · obtain ⟨r, hr⟩ : ∃ r, memR o k m = r := ⟨_, rfl⟩
    obtain ⟨⟨k', e', m'⟩, b⟩ := r
    refine ⟨(m, (k', e', m'), b), ⟨rfl, rfl, ⟨hok, hc⟩, hr⟩, fun c h2 => ⟨fun h7 => ?_, fun h7 => ?_⟩⟩
    · have hM : isMem o = true := by
        cases hb : isMem o with
        | true => rfl
        | false => unfold memR at hr; rw [hb] at hr; cases hr; cases h7
      unfold memR at hr
      rw [hM] at hr
      rw [show finR (othX o ⟨k, 0, m⟩) = (k', e', m') from congrArg Prod.fst hr] at hK
      exact fin_k tt_ok (rs := rs_r28_Exec) rfl rfl (hK c h2) [0, 5] rfl rfl rfl rfl rfl rfl
    · have hM : isMem o = false := by
        cases hb : isMem o with
        | false => rfl
        | true => unfold memR at hr; rw [hb] at hr; cases hr; cases h7
      have hA : isAlone o = true := oth_alone h6' hM (by rw [h5'] at hm; exact hm)
      rw [alone_fin hA] at hK
      rw [← show aloneV o k = (othX o ⟨k, 0, Ram.z0⟩).k by unfold aloneV; rw [hA]; rfl] at hK
      refine ⟨hok, ?_⟩
      refine WpE.into (aliasSlot 7 0 0 m.l.length cap rfl rfl) ?_
      refine fin_k tt_ok (rs := rs_r28_Exec) rfl rfl (hK cap hc) [0, 6] rfl ?_ rfl rfl rfl rfl
      rw [view_seg]; rfl
end Go.Proofs

namespace Go.Proofs
open Go Go.Sx
set_option maxRecDepth 10000
noncomputable abbrev eExec2 : Ent := .st (conS (P := Tryz.prog) (f := f_cpu_Exec) fun cargs σ0 => match cargs, σ0 with
  | [.agg cs, .s (.loc 0 0), .agg [.int .u8 fn, .int .i32 o]], [.blk 63 [.sl 1 0 n n'], .own 5 1 c xs] => withCore cs fun k hk => some ⟨.ex (Ram × Core × Int × Ram) fun p => .ask (n = p.1.l.length ∧ n' = p.1.l.length ∧ c = p.1.l.length ∧ xs = bytesI p.1.l ∧ (k.ok ∧ I32 o) ∧ exP k p.1 fn o = p.2)
      (.ret (.tup [.agg p.2.1.sv, .s (.int .i64 p.2.2.1)]) [mBox p.2.2.2.l.length, mOwn p.2.2.2.l]), fun K h => by
      obtain ⟨⟨m, k', e', m'⟩, ⟨e1, e2, e3, e4, ⟨h1, h3⟩, h2⟩, h⟩ := h
      dsimp only at e1 e2 e3 e4 h2 h
      subst e1; subst e2; subst e3; subst e4; subst hk
      refine Exec_c k m fn o h1 h3 K ?_
      rw [h2]; exact h⟩
  | [.agg cs, .s (.raw (.pointer none)), .agg [.int .u8 fn, .int .i32 o]], [] => withCore cs fun k hk => some ⟨.ret (.tup [.agg Core.zero.sv, .s (.int .i64 1)]) [], fun K h => by
      subst hk
      exact Exec_n k fn o K h⟩
  | _, _ => none)
noncomputable abbrev eRExec : Ent := .st (conS (P := Tryz.prog) (f := f_r28_Exec) fun cargs σ0 => match cargs, σ0 with
  | [.agg cs, .s (.sl 0 0 n cap), .agg [.int .u8 f, .int .i32 v]], [.view xs] => withCore cs fun k hk => some ⟨.ex (Ram × Core × Int × Ram) fun p => .ask (n = p.1.l.length ∧ xs = bytesI p.1.l ∧ (k.ok ∧ I32 v ∧ p.1.l.length ≤ cap) ∧ exP k p.1 f v = p.2) (ROut p.1 p.2), fun K h => by
      obtain ⟨⟨m, r⟩, ⟨e1, e2, ⟨h1, h2, h3⟩, e3⟩, h⟩ := h
      dsimp only at e1 e2 h1 h2 h3 e3 h
      subst e1; subst e2; subst hk; subst e3
      exact RExec_c k m cap f v h1 h2 h3 K h⟩
  | _, _ => none)
noncomputable abbrev eFromV : Ent := .st (conS (P := Tryz.prog) (f := f_mem_From) fun cargs σ0 => match cargs, σ0 with
  | [.s (.sl 0 0 n cap)], [.view xs] => some ⟨.ex Ram fun m => .ask (xs = bytesI m.l ∧ n = m.l.length)
      (.ret (.tup [.s (.loc 1 0), .s (.int .i64 0)]) [.view (bytesI m.l), .blk 63 [.sl 2 0 m.l.length m.l.length], mOwn m.l]), fun K h => by
      obtain ⟨m, ⟨e1, e2⟩, h⟩ := h
      subst e1; subst e2
      refine From_c m.l _ K ⟨fun _ => h, fun hb => ?_⟩
      exfalso
      have h1 := m.lo
      have h2 := m.hi
      have h3 := m.al
      unfold mayM at hb
      simp [show (m.l.length : Int) ≥ 1024 by omega, show (m.l.length : Int) ≤ 65536 by omega, (tmod4 _).1 (show (0 : Int) ≤ m.l.length by omega)] at hb
      omega⟩
  | _, _ => none)
noncomputable abbrev ctXs : CT := [(f_l28_memory, eMemory), (f_mem_From, eFromV), (f_cpu_Exec, eExec2), (f_r28_Exec, eRExec), (f_mem_Mem_Bytes, eBytesV), (f_l28_works, .pure spWorks)]
theorem ctXs_ok : CTok Tryz.prog ctXs := ⟨con_ok cal_l28_memory _, con_ok cal_mem_From _, con_ok cal_cpu_Exec _, con_ok cal_r28_Exec _, con_ok cal_mem_Mem_Bytes _, ceWorks, trivial⟩
set_option maxHeartbeats 8000000 in
theorem CpuExecs_c (k : Core) (l : List Int) (cap : Nat) (fn arg f o : Int) (hok : k.ok) (hl : ∀ b ∈ l, 0 ≤ b ∧ b < 256) (hc : l.length ≤ cap) (hm : cap ≤ maxLen) (harg : I32 arg) (ho : 0 ≤ o ∧ o < 256) :
    Con Tryz.prog f_l28_CpuExecs [.agg k.sv, .s (.sl 0 0 l.length cap), .agg [.int .u8 fn, .int .i32 arg], .s (.int .u8 f), .s (.int .u8 o)] [.view (bytesI l)] (.ret (.t (.s (.bool true))) [.view (bytesI l)]) := by
  intro K hK
  refine enter fn_l28_CpuExecs rfl nt_l28_CpuExecs rfl rfl (fun φ w0 β0 F => ?_)
  refine c_run tt_ok ctXs_ok k_l28_CpuExecs [] 90 (by kernel_rfl) ?_
  refine ⟨l, ⟨rfl, rfl, hc, hm, hl⟩, fun c1 hc1 => ?_⟩
  have hml := memK_length l hl
  have hq := qk_ok hok
  have hb1 : I32 (IntKind.i32.wrap o) := I32_wrap _
  have hg : I32 ((IntKind.i32.wrap o).tmod 96) := i32_tmod hb1
  show WpC _ _ _ _ _
  refine c_freeze 3 rfl rfl ?_
  refine c_loop (α := Nat) (fun i => i ≤ 3) (fun i => 3 - i)
    (fun i => [(1, .t (.s (.sl 3 0 1024 c1)), none), (5, .t (.s (.loc 1 0)), none), (7, .t (.s (.loc 2 0)), none), (11, .t (.s (.loc 4 0)), none), (42, .t (.agg [.int .u8 fn, .int .i32 arg, .int .u8 (f.tmod 16), .int .i32 arg, .int .u8 15, .int .i32 ((IntKind.i32.wrap o).tmod 96)]), none), (43, .t (.s (.int .i64 (i : Int))), none)])
    (fun _ => [.view (bytesI l), .blk 26 k.sv, .blk 29 [.int .u8 fn, .int .i32 arg], .view (bytesI (memK l hl).l), .blk 26 (qk k).sv]) 0 (by decide) ?_ ?_
  · exact into [0, 1, 2, 3, 4] ⟨⟨_, rfl, rfl⟩, ⟨_, rfl, rfl⟩, ⟨_, rfl, rfl⟩, ⟨_, rfl, rfl⟩, ⟨_, rfl, rfl⟩, ⟨_, rfl, rfl⟩, trivial⟩ ⟨_, rfl, rfl⟩ rfl rfl rfl rfl
  · intro i hi
    rcases (show i = 0 ∨ i = 1 ∨ i = 2 ∨ i = 3 by omega) with rfl | rfl | rfl | rfl
    · dsimp only
      refine c_run' tt_ok ctXs_ok k_l28_CpuExecs [] 90 (by kernel_rfl) (by kernel_rfl) ?_
      refine ⟨fun _ => ?_, fun h => absurd h (by decide)⟩
      refine ⟨fun _ => ?_, fun h => absurd h (by decide)⟩
      refine ⟨memK l hl, ⟨rfl, (memK_length l hl).symm⟩, fun h => absurd h (by decide), fun _ => ?_⟩
      obtain ⟨m, hmm⟩ : ∃ m, m = memK l hl := ⟨_, rfl⟩
      rw [← hmm] at hml ⊢
      rcases hx : exP k m fn arg with ⟨k2, e2, m2⟩
      refine ⟨(m, k2, e2, m2), ⟨rfl, rfl, rfl, rfl, ⟨hok, harg⟩, hx⟩, ?_⟩
      refine ⟨(m, k2, e2, m2), ⟨hml.symm, rfl, ⟨hok, harg, by rw [hml]; exact hc1⟩, hx⟩, fun c2 h2 => ?_⟩
      refine c_ways tt_ok ctXs_ok k_l28_CpuExecs rfl rfl ?_
      repeat' (first | exact trivial | (refine ⟨m2.l, fun _ => ⟨view_seg m2.l, rfl⟩, ?_⟩) | (refine ⟨m2, ⟨rfl, rfl, rfl, rfl⟩, ?_⟩) | (refine And.intro ?_ ?_) | (intro h; simp at h; done) | (refine fun _ => ?_))
      all_goals
        refine e_run tt_ok ctXs_ok k_l28_CpuExecs [] 90 (by kernel_rfl) ?_
        refine ⟨fun h => ?_, fun _ => ?_⟩
        · exfalso; simp at h
        · rw [hmm]
          refine e_again 1 (by decide) (by decide) (into [0, 1, 2, 3, 4] ⟨⟨_, rfl, rfl⟩, ⟨_, rfl, rfl⟩, ⟨_, rfl, rfl⟩, ⟨_, rfl, rfl⟩, ⟨_, rfl, rfl⟩, ⟨_, rfl, rfl⟩, trivial⟩ ⟨_, rfl, rfl⟩ rfl rfl rfl rfl)
    · dsimp only
      refine c_run' tt_ok ctXs_ok k_l28_CpuExecs [] 90 (by kernel_rfl) (by kernel_rfl) ?_
      refine ⟨fun _ => ?_, fun h => absurd h (by decide)⟩
      refine ⟨fun h => absurd h (by decide), fun _ => ?_⟩
      refine ⟨memK l hl, ⟨rfl, (memK_length l hl).symm⟩, fun h => absurd h (by decide), fun _ => ?_⟩
      obtain ⟨m, hmm⟩ : ∃ m, m = memK l hl := ⟨_, rfl⟩
      rw [← hmm] at hml ⊢
      rcases hx : exP (qk k) m (f.tmod 16) arg with ⟨k2, e2, m2⟩
      refine ⟨(m, k2, e2, m2), ⟨rfl, rfl, rfl, rfl, ⟨hq, harg⟩, hx⟩, ?_⟩
      refine ⟨(m, k2, e2, m2), ⟨hml.symm, rfl, ⟨hq, harg, by rw [hml]; exact hc1⟩, hx⟩, fun c2 h2 => ?_⟩
      refine c_ways tt_ok ctXs_ok k_l28_CpuExecs rfl rfl ?_
      repeat' (first | exact trivial | (refine ⟨m2.l, fun _ => ⟨view_seg m2.l, rfl⟩, ?_⟩) | (refine ⟨m2, ⟨rfl, rfl, rfl, rfl⟩, ?_⟩) | (refine And.intro ?_ ?_) | (intro h; simp at h; done) | (refine fun _ => ?_))
      all_goals
        refine e_run tt_ok ctXs_ok k_l28_CpuExecs [] 90 (by kernel_rfl) ?_
        refine ⟨fun h => ?_, fun _ => ?_⟩
        · exfalso; simp at h
        · rw [hmm]
          refine e_again 2 (by decide) (by decide) (into [0, 1, 2, 3, 4] ⟨⟨_, rfl, rfl⟩, ⟨_, rfl, rfl⟩, ⟨_, rfl, rfl⟩, ⟨_, rfl, rfl⟩, ⟨_, rfl, rfl⟩, ⟨_, rfl, rfl⟩, trivial⟩ ⟨_, rfl, rfl⟩ rfl rfl rfl rfl)
    · dsimp only
      refine c_run' tt_ok ctXs_ok k_l28_CpuExecs [] 90 (by kernel_rfl) (by kernel_rfl) ?_
      refine ⟨fun _ => ?_, fun h => absurd h (by decide)⟩
      refine ⟨fun h => absurd h (by decide), fun _ => ?_⟩
      refine ⟨memK l hl, ⟨rfl, (memK_length l hl).symm⟩, fun h => absurd h (by decide), fun _ => ?_⟩
      obtain ⟨m, hmm⟩ : ∃ m, m = memK l hl := ⟨_, rfl⟩
      rw [← hmm] at hml ⊢
      rcases hx : exP (qk k) m 15 ((IntKind.i32.wrap o).tmod 96) with ⟨k2, e2, m2⟩
      refine ⟨(m, k2, e2, m2), ⟨rfl, rfl, rfl, rfl, ⟨hq, hg⟩, hx⟩, ?_⟩
      refine ⟨(m, k2, e2, m2), ⟨hml.symm, rfl, ⟨hq, hg, by rw [hml]; exact hc1⟩, hx⟩, fun c2 h2 => ?_⟩
      refine c_ways tt_ok ctXs_ok k_l28_CpuExecs rfl rfl ?_
      repeat' (first | exact trivial | (refine ⟨m2.l, fun _ => ⟨view_seg m2.l, rfl⟩, ?_⟩) | (refine ⟨m2, ⟨rfl, rfl, rfl, rfl⟩, ?_⟩) | (refine And.intro ?_ ?_) | (intro h; simp at h; done) | (refine fun _ => ?_))
      all_goals
        refine e_run tt_ok ctXs_ok k_l28_CpuExecs [] 90 (by kernel_rfl) ?_
        refine ⟨fun h => ?_, fun _ => ?_⟩
        · exfalso; simp at h
        · rw [hmm]
          refine e_again 3 (by decide) (by decide) (into [0, 1, 2, 3, 4] ⟨⟨_, rfl, rfl⟩, ⟨_, rfl, rfl⟩, ⟨_, rfl, rfl⟩, ⟨_, rfl, rfl⟩, ⟨_, rfl, rfl⟩, ⟨_, rfl, rfl⟩, trivial⟩ ⟨_, rfl, rfl⟩ rfl rfl rfl rfl)
    · dsimp only
      refine c_run' tt_ok ctXs_ok k_l28_CpuExecs [] 90 (by kernel_rfl) (by kernel_rfl) ?_
      refine ⟨fun h => absurd h (by decide), fun _ => ?_⟩
      refine ⟨fun _ => trivial, ?_⟩
      exact fin_k tt_ok (rs := rs_l28_CpuExecs) rfl rfl hK [0] rfl rfl rfl rfl rfl rfl
end Go.Proofs

namespace Go.Proofs
open Go Go.Sx
theorem u8_fit {x : Int} (h : (Lit.int .u8 x).wf = true) : 0 ≤ x ∧ x < 256 := by
  simp [Lit.wf, IntKind.min, IntKind.max, IntKind.signed, IntKind.bits] at h
  omega
theorem i64_fit {x : Int} (h : (Lit.int .i64 x).wf = true) : -9223372036854775808 ≤ x ∧ x ≤ 9223372036854775807 := by
  simp [Lit.wf, IntKind.min, IntKind.max, IntKind.signed, IntKind.bits] at h
  omega
end Go.Proofs
