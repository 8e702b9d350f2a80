/- CpuLoop (printed by gen28E.py). -/
import Derived.Test.YtgmjidajikhimaaGreatWalkH

namespace Go.Proofs
open Go Go.Sx
set_option maxRecDepth 10000
theorem told_intL {k : IntKind} {a b : Int} {β : Nat → Bd} (h : b = a) : (FV.t (.s (.int k a))).den β = (FV.t (.s (.int k b))).den β := by rw [h]
noncomputable abbrev ctLw : CT := [(f_l28_ready, .pure spReady), (f_l28_fresh, eFresh), (f_l28_op, .pure spOp), (f_l28_run, eRun), (f_mem_Mem_Word, eWordT), (f_mem_Mem_SetWord, eSetWordT), (f_l28_works, .pure spWorks)]
theorem ctLw_ok : CTok Tryz.prog ctLw := ⟨ceReady, con_ok cal_l28_fresh _, ceOp, con_ok cal_l28_run _, con_ok cal_mem_Mem_Word _, con_ok cal_mem_Mem_SetWord _, ceWorks, trivial⟩
theorem loop_n {q : Int} (h : 0 ≤ q ∧ q < 256) : 0 ≤ IntKind.i32.wrap (q.tmod 61) ∧ IntKind.i32.wrap (q.tmod 61) ≤ 60 := by
  have e := Int.tmod_eq_emod_of_nonneg (b := 61) h.1
  rw [e, IntKind.wrap_i32]; omega
set_option maxHeartbeats 4000000 in
theorem CpuLoop_c (q first back : Int) (hq : 0 ≤ q ∧ q < 256) (hf : I32 first) (hb : I32 back) : Con Tryz.prog f_l28_CpuLoop [.s (.int .u8 q), .s (.int .i32 first), .s (.int .i32 back)] [] (.ret (.t (.s (.bool true))) []) := by
  intro K hK
  have hI : ∀ n, i32B n = true → I32 n := fun n h => i32B_ok h
  obtain ⟨N, hN⟩ : ∃ N, N = IntKind.i32.wrap (q.tmod 61) := ⟨_, rfl⟩
  have hNr := loop_n hq
  rw [← hN] at hNr
  have hNI : I32 N := by unfold I32; omega
  refine enter fn_l28_CpuLoop rfl nt_l28_CpuLoop rfl rfl (fun φ w0 β0 F => ?_)
  refine c_run tt_ok ctLw_ok k_l28_CpuLoop [100019] 60 (by kernel_rfl) ?_
  refine ⟨.t (.s (.int .i32 N)), fun β => told_intL hN.symm, rfl, ?_⟩
  refine ⟨Ram.z, ⟨rfl, rfl, rfl, rfl, hI _ (by decide)⟩, ?_⟩
  have e1 : Ram.z.err (-2147483348) = 0 := inA_err z_len iA
  have e2 : (Ram.z.set (-2147483348) first).err (-2147483344) = 0 := by rw [set_err]; exact inA_err z_len cA'
  refine ⟨fun _ => ⟨Ram.z.set (-2147483348) first, ⟨rfl, rfl, rfl, rfl, hI _ (by decide)⟩, ?_⟩, fun h => absurd h (by simp [e1])⟩
  refine ⟨fun h => absurd h (by simp [e1, e2]), fun _ => ?_⟩
  have hL0 := loop_start hf hNI
  generalize (Ram.z.set (-2147483348) first).set (-2147483344) N = M0 at hL0 ⊢
  show WpC _ _ _ _ _
  refine c_loop (α := Nat × Ram) (fun x => (1 : Int) ≤ x.1 ∧ ((x.1 : Int) = 1 ∨ (x.1 : Int) ≤ N) ∧ LoopI first N x.1 x.2) (fun x => 100 - x.1)
    (fun x => [(1, .t (.s (.int .i32 first)), none), (2, .t (.s (.int .i32 back)), none), (7, .t (.s (.int .i32 N)), none), (8, .t (.s (.loc 0 0)), none), (9, .t (.s (.int .i32 x.1)), none)])
    (fun x => [.blk 63 [.sl 1 0 x.2.l.length x.2.l.length], mOwn x.2.l]) (1, M0) ⟨Int.le_refl 1, Or.inl rfl, hL0⟩ ?_ ?_
  · exact into [0, 1] ⟨⟨_, rfl, rfl⟩, ⟨_, rfl, rfl⟩, ⟨_, rfl, rfl⟩, ⟨_, rfl, rfl⟩, ⟨_, rfl, rfl⟩, trivial⟩ ⟨_, rfl, rfl⟩ rfl rfl rfl rfl
  · rintro ⟨p, M⟩ ⟨hp1, hp2, hL⟩
    simp only at hp1 hp2 hL
    dsimp only
    refine c_run' tt_ok ctLw_ok k_l28_CpuLoop [] 60 (by kernel_rfl) (by kernel_rfl) ?_
    refine ⟨fun _ => ?_, fun h => by exfalso; have := of_decide_eq_false h; omega⟩
    refine ⟨trivial, ?_⟩
    have hp60 : (p : Int) ≤ 60 := by omega
    have okR : (rdR back (-2147483348) 0).ok := ⟨hb, hI (-2147483348) (by decide), hI 0 (by decide), rdK_ok.4, rdK_ok.5, rdK_ok.6, rdK_ok.7, rdK_ok.8, rdK_ok.9, rdK_ok.10, rdK_ok.11, rdK_ok.12, rdK_ok.13, rdK_ok.14, rdK_ok.15, rdK_ok.16, rdK_ok.17, rdK_ok.18, rdK_ok.19, rdK_ok.20, rdK_ok.21, rdK_ok.22⟩
    rcases Int.lt_or_le (p : Int) N with hlt | hge
    · obtain ⟨M', hr, hL'⟩ := lend_more (back := back) hL hp1 hNr.2 hlt
      show WpC _ _ _ _ _
      refine c_merge [(1, .t (.s (.int .i32 first)), none), (2, .t (.s (.int .i32 back)), none), (7, .t (.s (.int .i32 N)), none), (8, .t (.s (.loc 0 0)), none), (9, .t (.s (.int .i32 p)), none), (10, .t (.s (.loc 2 0)), none), (11, .t (.s (.loc 3 0)), none), (12, .t (.s (.int .i64 0)), none)] [.blk 63 [.sl 1 0 M'.l.length M'.l.length], mOwn M'.l, .blk 26 (Core.sv (rdR back (-2147483348) 0)), .blk 26 (Core.sv { rdR back (-2147483348) 0 with iptr := IntKind.i32.wrap (-2147483448 - back) })] (fun key => ?ways1) ?cont1
      case ways1 =>
        refine c_ways tt_ok ctLw_ok k_l28_CpuLoop rfl rfl ?_
        repeat' (first | exact trivial | (refine WpE.into ?_ key; first | (exact into [0, 1, 2, 3] ⟨⟨_, rfl, rfl⟩, ⟨_, rfl, rfl⟩, ⟨_, rfl, rfl⟩, ⟨_, rfl, rfl⟩, ⟨_, rfl, rfl⟩, ⟨_, rfl, rfl⟩, ⟨_, rfl, rfl⟩, ⟨_, rfl, rfl⟩, trivial⟩ ⟨_, rfl, rfl⟩ rfl rfl rfl rfl) | (exact into [0, 1, 2, 4] ⟨⟨_, rfl, rfl⟩, ⟨_, rfl, rfl⟩, ⟨_, rfl, rfl⟩, ⟨_, rfl, rfl⟩, ⟨_, rfl, rfl⟩, ⟨_, rfl, rfl⟩, ⟨_, rfl, rfl⟩, ⟨_, rfl, rfl⟩, trivial⟩ ⟨_, rfl, rfl⟩ rfl rfl rfl rfl)) | (refine Exists.intro (M, [(15, 33)], { rdR back (-2147483348) 0 with iptr := IntKind.i32.wrap (-2147483448 - back) }, 0, M') ?_; refine And.intro ⟨rfl, rfl, rfl, rfl, ⟨rfl, rfl, rfl, rfl⟩, ⟨okR, ⟨(hI _ (by decide)), trivial⟩, Nat.le_of_ble_eq_true rfl⟩, hr⟩ ?_) | (refine And.intro ?_ ?_) | (refine fun _ => ?_))
      refine e_run tt_ok ctLw_ok k_l28_CpuLoop [] 60 (by kernel_rfl) ?_
      refine ⟨M', ⟨rfl, rfl, rfl, rfl, hI _ (by decide)⟩, ?_⟩
      have hc : M'.word (-2147483344) = IntKind.i32.wrap (N - p) := by rw [hL'.cnt, w32 (by omega) (by omega)]; omega
      have hpos : IntKind.i32.wrap (N - p) > 0 := by rw [w32 (by omega) (by omega)]; omega
      refine ⟨fun h => by exfalso; revert h; simp [hc], fun _ => ⟨fun _ => ?_, fun h => by exfalso; revert h; simp [hc]; omega⟩⟩
      exact e_again (p + 1, M') ⟨by show (1 : Int) ≤ ((p + 1 : Nat) : Int); omega, Or.inr (by show ((p + 1 : Nat) : Int) ≤ N; omega), by show LoopI first N ((p + 1 : Nat) : Int) M'; rw [show ((p + 1 : Nat) : Int) = (p : Int) + 1 by omega]; exact hL'⟩ (by show 100 - (p + 1) < 100 - p; omega)
        (into [0, 1] ⟨⟨_, rfl, rfl⟩, ⟨_, rfl, rfl⟩, ⟨_, rfl, rfl⟩, ⟨_, rfl, rfl⟩, ⟨_, rfl, fvi (by show IntKind.i32.wrap ((p : Int) + 1) = ((p + 1 : Nat) : Int); rw [w32 (by omega) (by omega)]; omega)⟩, trivial⟩ ⟨_, rfl, rfl⟩ rfl rfl rfl rfl)
    · obtain ⟨M', hr, hl', hi', hc'⟩ := lend_last (back := back) hL hp1 hNr.1 hNr.2 hp60 hge
      show WpC _ _ _ _ _
      refine c_merge [(1, .t (.s (.int .i32 first)), none), (2, .t (.s (.int .i32 back)), none), (7, .t (.s (.int .i32 N)), none), (8, .t (.s (.loc 0 0)), none), (9, .t (.s (.int .i32 p)), none), (10, .t (.s (.loc 2 0)), none), (11, .t (.s (.loc 3 0)), none), (12, .t (.s (.int .i64 0)), none)] [.blk 63 [.sl 1 0 M'.l.length M'.l.length], mOwn M'.l, .blk 26 (Core.sv (rdR back (-2147483348) 0)), .blk 26 (Core.sv (rdR back (-2147483348) 0))] (fun key => ?ways2) ?cont2
      case ways2 =>
        refine c_ways tt_ok ctLw_ok k_l28_CpuLoop rfl rfl ?_
        repeat' (first | exact trivial | (refine WpE.into ?_ key; first | (exact into [0, 1, 2, 3] ⟨⟨_, rfl, rfl⟩, ⟨_, rfl, rfl⟩, ⟨_, rfl, rfl⟩, ⟨_, rfl, rfl⟩, ⟨_, rfl, rfl⟩, ⟨_, rfl, rfl⟩, ⟨_, rfl, rfl⟩, ⟨_, rfl, rfl⟩, trivial⟩ ⟨_, rfl, rfl⟩ rfl rfl rfl rfl) | (exact into [0, 1, 2, 4] ⟨⟨_, rfl, rfl⟩, ⟨_, rfl, rfl⟩, ⟨_, rfl, rfl⟩, ⟨_, rfl, rfl⟩, ⟨_, rfl, rfl⟩, ⟨_, rfl, rfl⟩, ⟨_, rfl, rfl⟩, ⟨_, rfl, rfl⟩, trivial⟩ ⟨_, rfl, rfl⟩ rfl rfl rfl rfl)) | (refine Exists.intro (M, [(15, 33)], (rdR back (-2147483348) 0), 0, M') ?_; refine And.intro ⟨rfl, rfl, rfl, rfl, ⟨rfl, rfl, rfl, rfl⟩, ⟨okR, ⟨(hI _ (by decide)), trivial⟩, Nat.le_of_ble_eq_true rfl⟩, hr⟩ ?_) | (refine And.intro ?_ ?_) | (refine fun _ => ?_))
      refine e_run tt_ok ctLw_ok k_l28_CpuLoop [] 60 (by kernel_rfl) ?_
      refine ⟨M', ⟨rfl, rfl, rfl, rfl, hI _ (by decide)⟩, ?_⟩
      have hc : M'.word (-2147483344) = IntKind.i32.wrap (N - p) := by rw [hc', w32 (by omega) (by omega)]
      have hneg : ¬ IntKind.i32.wrap (N - p) > 0 := by rw [w32 (by omega) (by omega)]; omega
      refine ⟨fun h => by exfalso; revert h; simp [hc], fun _ => ⟨fun h => by exfalso; revert h; simp [hc]; omega, fun _ => ⟨fun h => by exfalso; revert h; simp [hc]; omega, fun _ => ?_⟩⟩⟩
      refine ⟨M', ⟨rfl, rfl, rfl, rfl, hI _ (by decide)⟩, ?_⟩
      refine ⟨fun _ => trivial, ?_⟩
      refine fin_k tt_ok (rs := rs_l28_CpuLoop) rfl rfl hK [] ?_ rfl rfl rfl rfl rfl
      refine t1b ?_
      have h1 : (p : Int) = if N > 1 then N else 1 := by split <;> omega
      have h2 : M'.word (-2147483348) = IntKind.i32.wrap (IntKind.i32.wrap (first + p) - 1) := by rw [hi']; simp only [IntKind.wrap_i32]; omega
      show (bif bif (p : Int) == (if N > 1 then N else 1) then M'.word (-2147483348) == IntKind.i32.wrap (IntKind.i32.wrap (first + p) - 1) else false then true else false) = true
      rw [← h1, h2]; simp
end Go.Proofs
