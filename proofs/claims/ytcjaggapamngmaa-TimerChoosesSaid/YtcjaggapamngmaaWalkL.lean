/- The law's chooses. -/
import Derived.Test.YtcjaggapamngmaaWalkK
import Derived.Test.YtcjaggapamngmaaWalkA
import Derived.Test.YtcjaggapamngmaaSxC

namespace Go.Proofs
open Go Go.Sx
set_option maxRecDepth 10000
theorem gd_conv2 {x : Int} (h : 0 ≤ x ∧ x < 256) : IntKind.i32.wrap (IntKind.i32.wrap (x.tmod 64) - 8) = x % 64 - 8 := dl_conv h
noncomputable abbrev ctCh : CT := [(f_l32_op, in_l32_op []), (f_timer_Exec, eTExec), (f_mem_Mem_Word, eWordT), (f_timer_Queue, eTQueue)]
theorem ctCh_ok : CTok Try.prog ctCh := ⟨in_l32_op_ok (ct := []) trivial, con_ok cal_timer_Exec _, con_ok cal_mem_Mem_Word _, con_ok cal_timer_Queue _, trivial⟩
theorem any_snoc {G : List Gd} {i : Nat} {g : Gd} (hg : G[i]? = some g) : (G.take (i + 1)).any Gd.on = (bif (G.take i).any Gd.on then true else g.on) := by
  rw [List.take_add_one, hg, List.any_append]; cases (G.take i).any Gd.on <;> simp
set_option maxHeartbeats 4000000 in
theorem lchooses_c (clock now c0 c1 tk t ip a b c : Int) (G : List Gd) (cap : Nat) (m : Ram) (hr : I32 c0 ∧ I32 c1 ∧ I32 tk ∧ I32 t ∧ I32 ip) (ha : I32 a ∧ I32 b ∧ I32 c) (hG : ∀ g ∈ G, g.good) (hn : G.length ≤ 8) (hnow : 0 ≤ now ∧ now ≤ 64) (h : ChI clock now G 0 false t m) :
    Con Try.prog f_l32_chooses [.agg (kC c0 c1 tk t ip a b c).sv, .s (.loc 0 0), .s (.sl 1 0 G.length cap), .s (.int .i32 clock), .s (.int .i32 now)] [.blk 33 [.sl 2 0 m.l.length m.l.length], .view (gdV G), mOwn m.l]
    (.all Ram (fun _ => True) fun m => .ret (.t (.s (.bool true))) [.blk 33 [.sl 2 0 m.l.length m.l.length], .view (gdV G), mOwn m.l]) := by
  intro K hK
  have hI0 : I32 0 := ⟨by decide, by decide⟩
  have hI1 : I32 1 := ⟨by decide, by decide⟩
  have hI01 : ∀ x : Bool, I32 (bif x then 1 else 0) := fun x => by cases x; exact hI0; exact hI1
  have hkok : ∀ t a b c, I32 t → I32 a → I32 b → I32 c → (kC c0 c1 tk t ip a b c).ok := fun t a b c ht ha hb hc => kC_ok hr.1 hr.2.1 hr.2.2.1 ht hr.2.2.2.2 ha hb hc
  refine enter fn_l32_chooses rfl nt_l32_chooses rfl rfl (fun φ w0 β0 F => ?_)
  refine c_run tt_ok ctCh_ok k_l32_chooses [] 90 (by kernel_rfl) ?_
  show WpC _ _ _ _ _
  refine c_loop (α := Nat × Bool × Int × (Int × Int × Int) × Ram) (fun x => x.1 ≤ G.length ∧ ChI clock now G x.1 x.2.1 x.2.2.1 x.2.2.2.2 ∧ I32 x.2.2.1 ∧ (I32 x.2.2.2.1.1 ∧ I32 x.2.2.2.1.2.1 ∧ I32 x.2.2.2.1.2.2)) (fun x => G.length - x.1)
    (fun x => [(1, .t (.s (.loc 0 0)), none), (2, .t (.s (.sl 1 0 G.length cap)), none), (3, .t (.s (.int .i32 clock)), none), (4, .t (.s (.int .i32 now)), none), (5, .t (.s (.loc 3 0)), none), (10, .t (.s (.bool false)), none), (11, .t (.s (.int .i32 (spc 0))), none), (12, .t (.s (.bool x.2.1)), none), (13, .t (.s (.int .i64 (x.1 : Int))), none)])
    (fun x => [.blk 33 [.sl 2 0 x.2.2.2.2.l.length x.2.2.2.2.l.length], .view (gdV G), mOwn x.2.2.2.2.l, .blk 26 (kC c0 c1 tk x.2.2.1 ip x.2.2.2.1.1 x.2.2.2.1.2.1 x.2.2.2.1.2.2).sv]) (0, false, t, (a, b, c), m) ⟨Nat.zero_le _, h, hr.2.2.2.1, ha⟩ ?_ ?_
  · exact into [0, 1, 2, 3] ⟨⟨_, rfl, rfl⟩, ⟨_, rfl, rfl⟩, ⟨_, rfl, rfl⟩, ⟨_, rfl, rfl⟩, ⟨_, rfl, rfl⟩, ⟨_, rfl, rfl⟩, ⟨_, rfl, rfl⟩, ⟨_, rfl, rfl⟩, ⟨_, rfl, rfl⟩, trivial⟩ ⟨_, rfl, rfl⟩ rfl rfl rfl rfl
  rintro ⟨i, ch, t, ⟨a, b, c⟩, m⟩ ⟨hi, hC, ht, ha⟩
  simp only at hi hC ht ha
  dsimp only
  refine c_run' tt_ok ctCh_ok k_l32_chooses [100039, 100042] 90 (by kernel_rfl) (by kernel_rfl) ?_
  refine ⟨fun h1 => ?_, fun h1 => ?_⟩
  · have hlt : i < G.length := by have := of_decide_eq_true h1; omega
    obtain ⟨g, hg⟩ : ∃ g, G[i]? = some g := ⟨_, List.getElem?_eq_getElem hlt⟩
    have hgd := hG g (List.mem_of_getElem? hg)
    have hbd := tab_bound gd_len (l := G) hlt
    have hc0 : (gdV G)[0 + i * 2 + 0]? = some (.bool g.on) := tab_cell gd_len hg (by decide) rfl
    have hc1 : (gdV G)[0 + i * 2 + 1]? = some (.int .u8 g.dl) := tab_cell gd_len hg (by decide) rfl
    have hw5 : IntKind.i32.wrap (IntKind.i32.wrap (i : Int) + 5) = (i : Int) + 5 := by rw [IntKind.wrap_i32, IntKind.wrap_i32]; omega
    have hI5 : I32 ((i : Int) + 5) := by unfold I32; omega
    refine ⟨i, ⟨rfl, hlt, hbd⟩, .int .u8 g.dl, rfl, hc1, ?_⟩
    refine ⟨.t (.s (.int .i32 g.d)), fun β => told_jl (gd_conv2 hgd).symm, rfl, ?_⟩
    refine ⟨.t (.s (.int .i32 ((i : Int) + 5))), fun β => told_jl hw5.symm, rfl, ?_⟩
    refine ⟨i, ⟨rfl, hlt, hbd⟩, .bool g.on, rfl, hc0, ?_⟩
    obtain ⟨t', m', hT, hC', ht', hword⟩ := dist_law (c0 := c0) (c1 := c1) (tk := tk) (ip := ip) hC hg (by omega) hnow ht
    refine ⟨fun ho => ?_, fun ho => ?_⟩
    · rw [ho] at hT
      show WpC _ _ _ _ _
      rcases hwv : wantB g now ch with _ | _
      · have hwB : wantB g now ch = false := hwv
        unfold wantB at hwB
        rw [hwv] at hT hC' hword
        refine c_merge [(1, .t (.s (.loc 0 0)), none), (2, .t (.s (.sl 1 0 G.length cap)), none), (3, .t (.s (.int .i32 clock)), none), (4, .t (.s (.int .i32 now)), none), (5, .t (.s (.loc 3 0)), none), (10, .t (.s (.bool false)), none), (11, .t (.s (.int .i32 (spc 0))), none), (12, .t (.s (.bool ch)), none), (13, .t (.s (.int .i64 (i : Int))), none), (14, .t (.s (.int .i32 g.d)), none), (15, .t (.s (.loc 4 0)), none), (16, .t (.s (.int .i64 0)), none)]
          [.blk 33 [.sl 2 0 m'.l.length m'.l.length], .view (gdV G), mOwn m'.l, .blk 26 (kC c0 c1 tk t ip ((i : Int) + 5) 1 (IntKind.i32.wrap (clock + g.d))).sv, .blk 26 (kC c0 c1 tk t' ip 0 0 0).sv] (fun key => ?ways1) ?cont1
        case ways1 =>
          refine c_waysH tt_ok ctCh_ok k_l32_chooses [3] rfl rfl rfl ?_
          repeat' (first | exact trivial | exact ⟨rfl, trivial⟩ | (refine Exists.intro (m, kC c0 c1 tk t' ip 0 0 0, 0, m') ?_; refine And.intro ⟨rfl, rfl, rfl, rfl, hkok _ _ _ _ ht hI5 hI1 (I32_wrap _), hT⟩ ?_) | (refine And.intro ?_ ?_) | (refine fun _ => ?_))
          all_goals
            refine WpE.into ?_ key
            first
              | exact into [0, 1, 2, 3, 4] ⟨⟨_, rfl, rfl⟩, ⟨_, rfl, rfl⟩, ⟨_, rfl, rfl⟩, ⟨_, rfl, rfl⟩, ⟨_, rfl, rfl⟩, ⟨_, rfl, rfl⟩, ⟨_, rfl, rfl⟩, ⟨_, rfl, rfl⟩, ⟨_, rfl, rfl⟩, ⟨_, rfl, rfl⟩, ⟨_, rfl, rfl⟩, ⟨_, rfl, rfl⟩, trivial⟩ ⟨_, rfl, rfl⟩ rfl rfl rfl rfl
              | exact into [0, 1, 2, 3, 5] ⟨⟨_, rfl, rfl⟩, ⟨_, rfl, rfl⟩, ⟨_, rfl, rfl⟩, ⟨_, rfl, rfl⟩, ⟨_, rfl, rfl⟩, ⟨_, rfl, rfl⟩, ⟨_, rfl, rfl⟩, ⟨_, rfl, rfl⟩, ⟨_, rfl, rfl⟩, ⟨_, rfl, rfl⟩, ⟨_, rfl, rfl⟩, ⟨_, rfl, rfl⟩, trivial⟩ ⟨_, rfl, rfl⟩ rfl rfl rfl rfl
              | exact into [0, 1, 2, 3, 6] ⟨⟨_, rfl, rfl⟩, ⟨_, rfl, rfl⟩, ⟨_, rfl, rfl⟩, ⟨_, rfl, rfl⟩, ⟨_, rfl, rfl⟩, ⟨_, rfl, rfl⟩, ⟨_, rfl, rfl⟩, ⟨_, rfl, rfl⟩, ⟨_, rfl, rfl⟩, ⟨_, rfl, rfl⟩, ⟨_, rfl, rfl⟩, ⟨_, rfl, rfl⟩, trivial⟩ ⟨_, rfl, rfl⟩ rfl rfl rfl rfl
              | exact into [0, 1, 2, 3, 7] ⟨⟨_, rfl, rfl⟩, ⟨_, rfl, rfl⟩, ⟨_, rfl, rfl⟩, ⟨_, rfl, rfl⟩, ⟨_, rfl, rfl⟩, ⟨_, rfl, rfl⟩, ⟨_, rfl, rfl⟩, ⟨_, rfl, rfl⟩, ⟨_, rfl, rfl⟩, ⟨_, rfl, rfl⟩, ⟨_, rfl, rfl⟩, ⟨_, rfl, rfl⟩, trivial⟩ ⟨_, rfl, rfl⟩ rfl rfl rfl rfl
        refine e_run tt_ok ctCh_ok k_l32_chooses [100078, 100083, 100087, 100092, 100106, 100110] 90 (by kernel_rfl) ?_
        refine ⟨fun h => absurd (show ((0 : Int) != 0) = true from h) (by decide), fun _ => ?_⟩
        refine ⟨i, ⟨rfl, hlt, hbd⟩, .bool g.on, rfl, hc0, ?_⟩
        refine ⟨.t (.s (.bool false)), fun β => told_bl (hwB), rfl, ?_⟩
        refine ⟨.t (.s (.bool false)), fun β => told_bl (rfl), rfl, ?_⟩
        refine ⟨.t (.s (.bool true)), fun _ β => told_tr (rfl), rfl, ?_⟩
        refine ⟨.t (.s (.bool false)), fun β => told_bl (rfl), rfl, ?_⟩
        refine ⟨fun h => absurd h (by decide), fun _ => ?_⟩
        refine ⟨m', ⟨rfl, rfl, rfl, rfl, ⟨by decide, by decide⟩⟩, ?_⟩
        refine ⟨.t (.s (.bool false)), fun β => told_bl (rfl), rfl, ?_⟩
        refine ⟨fun h => absurd h (by decide), fun _ => ?_⟩
        refine ⟨.t (.s (.bool (ch || false))), fun β => told_bl (by cases ch <;> rfl), rfl, ?_⟩
        exact e_again (i + 1, ch || false, t', (0, 0, 0), m') ⟨hlt, hC', ht', ⟨hI0, hI0, hI0⟩⟩ (by dsimp only; omega) (into [0, 1, 2, 3] ⟨⟨_, rfl, rfl⟩, ⟨_, rfl, rfl⟩, ⟨_, rfl, rfl⟩, ⟨_, rfl, rfl⟩, ⟨_, rfl, rfl⟩, ⟨_, rfl, rfl⟩, ⟨_, rfl, rfl⟩, ⟨_, rfl, rfl⟩, ⟨_, rfl, fvi (wrapSucc (by omega))⟩, trivial⟩ ⟨_, rfl, rfl⟩ rfl rfl rfl rfl)
      · have hwB : wantB g now ch = true := hwv
        unfold wantB at hwB
        rw [hwv] at hT hC' hword
        refine c_merge [(1, .t (.s (.loc 0 0)), none), (2, .t (.s (.sl 1 0 G.length cap)), none), (3, .t (.s (.int .i32 clock)), none), (4, .t (.s (.int .i32 now)), none), (5, .t (.s (.loc 3 0)), none), (10, .t (.s (.bool false)), none), (11, .t (.s (.int .i32 (spc 0))), none), (12, .t (.s (.bool ch)), none), (13, .t (.s (.int .i64 (i : Int))), none), (14, .t (.s (.int .i32 g.d)), none), (15, .t (.s (.loc 4 0)), none), (16, .t (.s (.int .i64 0)), none)]
          [.blk 33 [.sl 2 0 m'.l.length m'.l.length], .view (gdV G), mOwn m'.l, .blk 26 (kC c0 c1 tk t ip ((i : Int) + 5) 1 (IntKind.i32.wrap (clock + g.d))).sv, .blk 26 (kC c0 c1 tk t' ip 1 0 0).sv] (fun key => ?ways2) ?cont2
        case ways2 =>
          refine c_waysH tt_ok ctCh_ok k_l32_chooses [3] rfl rfl rfl ?_
          repeat' (first | exact trivial | exact ⟨rfl, trivial⟩ | (refine Exists.intro (m, kC c0 c1 tk t' ip 1 0 0, 0, m') ?_; refine And.intro ⟨rfl, rfl, rfl, rfl, hkok _ _ _ _ ht hI5 hI1 (I32_wrap _), hT⟩ ?_) | (refine And.intro ?_ ?_) | (refine fun _ => ?_))
          all_goals
            refine WpE.into ?_ key
            first
              | exact into [0, 1, 2, 3, 4] ⟨⟨_, rfl, rfl⟩, ⟨_, rfl, rfl⟩, ⟨_, rfl, rfl⟩, ⟨_, rfl, rfl⟩, ⟨_, rfl, rfl⟩, ⟨_, rfl, rfl⟩, ⟨_, rfl, rfl⟩, ⟨_, rfl, rfl⟩, ⟨_, rfl, rfl⟩, ⟨_, rfl, rfl⟩, ⟨_, rfl, rfl⟩, ⟨_, rfl, rfl⟩, trivial⟩ ⟨_, rfl, rfl⟩ rfl rfl rfl rfl
              | exact into [0, 1, 2, 3, 5] ⟨⟨_, rfl, rfl⟩, ⟨_, rfl, rfl⟩, ⟨_, rfl, rfl⟩, ⟨_, rfl, rfl⟩, ⟨_, rfl, rfl⟩, ⟨_, rfl, rfl⟩, ⟨_, rfl, rfl⟩, ⟨_, rfl, rfl⟩, ⟨_, rfl, rfl⟩, ⟨_, rfl, rfl⟩, ⟨_, rfl, rfl⟩, ⟨_, rfl, rfl⟩, trivial⟩ ⟨_, rfl, rfl⟩ rfl rfl rfl rfl
              | exact into [0, 1, 2, 3, 6] ⟨⟨_, rfl, rfl⟩, ⟨_, rfl, rfl⟩, ⟨_, rfl, rfl⟩, ⟨_, rfl, rfl⟩, ⟨_, rfl, rfl⟩, ⟨_, rfl, rfl⟩, ⟨_, rfl, rfl⟩, ⟨_, rfl, rfl⟩, ⟨_, rfl, rfl⟩, ⟨_, rfl, rfl⟩, ⟨_, rfl, rfl⟩, ⟨_, rfl, rfl⟩, trivial⟩ ⟨_, rfl, rfl⟩ rfl rfl rfl rfl
              | exact into [0, 1, 2, 3, 7] ⟨⟨_, rfl, rfl⟩, ⟨_, rfl, rfl⟩, ⟨_, rfl, rfl⟩, ⟨_, rfl, rfl⟩, ⟨_, rfl, rfl⟩, ⟨_, rfl, rfl⟩, ⟨_, rfl, rfl⟩, ⟨_, rfl, rfl⟩, ⟨_, rfl, rfl⟩, ⟨_, rfl, rfl⟩, ⟨_, rfl, rfl⟩, ⟨_, rfl, rfl⟩, trivial⟩ ⟨_, rfl, rfl⟩ rfl rfl rfl rfl
        refine e_run tt_ok ctCh_ok k_l32_chooses [100078, 100083, 100087, 100092, 100106, 100110] 90 (by kernel_rfl) ?_
        refine ⟨fun h => absurd (show ((0 : Int) != 0) = true from h) (by decide), fun _ => ?_⟩
        refine ⟨i, ⟨rfl, hlt, hbd⟩, .bool g.on, rfl, hc0, ?_⟩
        refine ⟨.t (.s (.bool true)), fun β => told_tr (hwB), rfl, ?_⟩
        refine ⟨.t (.s (.bool false)), fun β => told_bl (rfl), rfl, ?_⟩
        refine ⟨.t (.s (.bool false)), fun _ β => told_bl (rfl), rfl, ?_⟩
        refine ⟨.t (.s (.bool false)), fun β => told_bl (rfl), rfl, ?_⟩
        refine ⟨fun h => absurd h (by decide), fun _ => ?_⟩
        refine ⟨m', ⟨rfl, rfl, rfl, rfl, ⟨by decide, by decide⟩⟩, ?_⟩
        refine ⟨.t (.s (.bool false)), fun β => told_bl (by have h5 := hword rfl; rw [show spc 0 - 0 = spc 0 by simp] at h5; show (m'.word (spc 0) != IntKind.i32.wrap (IntKind.i32.wrap (i : Int) + 5)) = false; rw [h5, hw5]; simp), rfl, ?_⟩
        refine ⟨fun h => absurd h (by decide), fun _ => ?_⟩
        refine ⟨.t (.s (.bool (ch || true))), fun β => told_bl (by cases ch <;> rfl), rfl, ?_⟩
        exact e_again (i + 1, ch || true, t', (1, 0, 0), m') ⟨hlt, hC', ht', ⟨hI1, hI0, hI0⟩⟩ (by dsimp only; omega) (into [0, 1, 2, 3] ⟨⟨_, rfl, rfl⟩, ⟨_, rfl, rfl⟩, ⟨_, rfl, rfl⟩, ⟨_, rfl, rfl⟩, ⟨_, rfl, rfl⟩, ⟨_, rfl, rfl⟩, ⟨_, rfl, rfl⟩, ⟨_, rfl, rfl⟩, ⟨_, rfl, fvi (wrapSucc (by omega))⟩, trivial⟩ ⟨_, rfl, rfl⟩ rfl rfl rfl rfl)
    · rw [ho] at hT
      show WpC _ _ _ _ _
      rcases hwv : wantB g now ch with _ | _
      · have hwB : wantB g now ch = false := hwv
        unfold wantB at hwB
        rw [hwv] at hT hC' hword
        refine c_merge [(1, .t (.s (.loc 0 0)), none), (2, .t (.s (.sl 1 0 G.length cap)), none), (3, .t (.s (.int .i32 clock)), none), (4, .t (.s (.int .i32 now)), none), (5, .t (.s (.loc 3 0)), none), (10, .t (.s (.bool false)), none), (11, .t (.s (.int .i32 (spc 0))), none), (12, .t (.s (.bool ch)), none), (13, .t (.s (.int .i64 (i : Int))), none), (14, .t (.s (.int .i32 g.d)), none), (15, .t (.s (.loc 4 0)), none), (16, .t (.s (.int .i64 0)), none)]
          [.blk 33 [.sl 2 0 m'.l.length m'.l.length], .view (gdV G), mOwn m'.l, .blk 26 (kC c0 c1 tk t ip ((i : Int) + 5) 0 (IntKind.i32.wrap (clock + g.d))).sv, .blk 26 (kC c0 c1 tk t' ip 0 0 0).sv] (fun key => ?ways3) ?cont3
        case ways3 =>
          refine c_waysH tt_ok ctCh_ok k_l32_chooses [3] rfl rfl rfl ?_
          repeat' (first | exact trivial | exact ⟨rfl, trivial⟩ | (refine Exists.intro (m, kC c0 c1 tk t' ip 0 0 0, 0, m') ?_; refine And.intro ⟨rfl, rfl, rfl, rfl, hkok _ _ _ _ ht hI5 hI0 (I32_wrap _), hT⟩ ?_) | (refine And.intro ?_ ?_) | (refine fun _ => ?_))
          all_goals
            refine WpE.into ?_ key
            first
              | exact into [0, 1, 2, 3, 4] ⟨⟨_, rfl, rfl⟩, ⟨_, rfl, rfl⟩, ⟨_, rfl, rfl⟩, ⟨_, rfl, rfl⟩, ⟨_, rfl, rfl⟩, ⟨_, rfl, rfl⟩, ⟨_, rfl, rfl⟩, ⟨_, rfl, rfl⟩, ⟨_, rfl, rfl⟩, ⟨_, rfl, rfl⟩, ⟨_, rfl, rfl⟩, ⟨_, rfl, rfl⟩, trivial⟩ ⟨_, rfl, rfl⟩ rfl rfl rfl rfl
              | exact into [0, 1, 2, 3, 5] ⟨⟨_, rfl, rfl⟩, ⟨_, rfl, rfl⟩, ⟨_, rfl, rfl⟩, ⟨_, rfl, rfl⟩, ⟨_, rfl, rfl⟩, ⟨_, rfl, rfl⟩, ⟨_, rfl, rfl⟩, ⟨_, rfl, rfl⟩, ⟨_, rfl, rfl⟩, ⟨_, rfl, rfl⟩, ⟨_, rfl, rfl⟩, ⟨_, rfl, rfl⟩, trivial⟩ ⟨_, rfl, rfl⟩ rfl rfl rfl rfl
              | exact into [0, 1, 2, 3, 6] ⟨⟨_, rfl, rfl⟩, ⟨_, rfl, rfl⟩, ⟨_, rfl, rfl⟩, ⟨_, rfl, rfl⟩, ⟨_, rfl, rfl⟩, ⟨_, rfl, rfl⟩, ⟨_, rfl, rfl⟩, ⟨_, rfl, rfl⟩, ⟨_, rfl, rfl⟩, ⟨_, rfl, rfl⟩, ⟨_, rfl, rfl⟩, ⟨_, rfl, rfl⟩, trivial⟩ ⟨_, rfl, rfl⟩ rfl rfl rfl rfl
              | exact into [0, 1, 2, 3, 7] ⟨⟨_, rfl, rfl⟩, ⟨_, rfl, rfl⟩, ⟨_, rfl, rfl⟩, ⟨_, rfl, rfl⟩, ⟨_, rfl, rfl⟩, ⟨_, rfl, rfl⟩, ⟨_, rfl, rfl⟩, ⟨_, rfl, rfl⟩, ⟨_, rfl, rfl⟩, ⟨_, rfl, rfl⟩, ⟨_, rfl, rfl⟩, ⟨_, rfl, rfl⟩, trivial⟩ ⟨_, rfl, rfl⟩ rfl rfl rfl rfl
        refine e_run tt_ok ctCh_ok k_l32_chooses [100078, 100083, 100087, 100092, 100106, 100110] 90 (by kernel_rfl) ?_
        refine ⟨fun h => absurd (show ((0 : Int) != 0) = true from h) (by decide), fun _ => ?_⟩
        refine ⟨i, ⟨rfl, hlt, hbd⟩, .bool g.on, rfl, hc0, ?_⟩
        refine ⟨.t (.s (.bool false)), fun β => told_bl (hwB), rfl, ?_⟩
        refine ⟨.t (.s (.bool false)), fun β => told_bl (rfl), rfl, ?_⟩
        refine ⟨.t (.s (.bool true)), fun _ β => told_tr (rfl), rfl, ?_⟩
        refine ⟨.t (.s (.bool false)), fun β => told_bl (rfl), rfl, ?_⟩
        refine ⟨fun h => absurd h (by decide), fun _ => ?_⟩
        refine ⟨m', ⟨rfl, rfl, rfl, rfl, ⟨by decide, by decide⟩⟩, ?_⟩
        refine ⟨.t (.s (.bool false)), fun β => told_bl (rfl), rfl, ?_⟩
        refine ⟨fun h => absurd h (by decide), fun _ => ?_⟩
        refine ⟨.t (.s (.bool (ch || false))), fun β => told_bl (by cases ch <;> rfl), rfl, ?_⟩
        exact e_again (i + 1, ch || false, t', (0, 0, 0), m') ⟨hlt, hC', ht', ⟨hI0, hI0, hI0⟩⟩ (by dsimp only; omega) (into [0, 1, 2, 3] ⟨⟨_, rfl, rfl⟩, ⟨_, rfl, rfl⟩, ⟨_, rfl, rfl⟩, ⟨_, rfl, rfl⟩, ⟨_, rfl, rfl⟩, ⟨_, rfl, rfl⟩, ⟨_, rfl, rfl⟩, ⟨_, rfl, rfl⟩, ⟨_, rfl, fvi (wrapSucc (by omega))⟩, trivial⟩ ⟨_, rfl, rfl⟩ rfl rfl rfl rfl)
      · unfold wantB at hwv
        rw [ho] at hwv
        exact absurd hwv (by simp)
  · have hz : i = G.length := by have := of_decide_eq_false h1; omega
    subst hz
    obtain ⟨L, hq, hL⟩ := endq_law (c0 := c0) (c1 := c1) (tk := tk) (ip := ip) (a := a) (b := b) (c := c) hC
    refine ⟨(m, L, 0), ⟨rfl, rfl, rfl, rfl, ⟨hkok t a b c ht ha.1 ha.2.1 ha.2.2, by decide, by decide⟩, hq⟩, fun cq hcq => ?_⟩
    show WpC _ _ _ _ _
    refine c_loop (α := Nat) (fun x => x ≤ G.length) (fun x => G.length - x)
      (fun x => [(2, .t (.s (.sl 1 0 G.length cap)), none), (5, .t (.s (.loc 3 0)), none), (10, .t (.s (.bool false)), none), (20, .t (.s (.sl 4 0 L.length cq)), none), (21, .t (.s (.int .i64 0)), none), (22, .t (.s (.bool ((G.take x).any Gd.on))), none), (23, .t (.s (.int .i64 (x : Int))), none)])
      (fun x => [.blk 33 [.sl 2 0 m.l.length m.l.length], .view (gdV G), mOwn m.l, .blk 26 (kC c0 c1 tk t ip a b c).sv, .own 21 1 cq (qV L)]) 0 (Nat.zero_le _) ?_ ?_
    · exact into [0, 1, 2, 3, 4] ⟨⟨_, rfl, rfl⟩, ⟨_, rfl, rfl⟩, ⟨_, rfl, rfl⟩, ⟨_, rfl, rfl⟩, ⟨_, rfl, rfl⟩, ⟨_, rfl, rfl⟩, ⟨_, rfl, rfl⟩, trivial⟩ ⟨_, rfl, rfl⟩ rfl rfl rfl rfl
    rintro j hj
    dsimp only
    refine c_run' tt_ok ctCh_ok k_l32_chooses [100130, 100142, 100147] 90 (by kernel_rfl) (by kernel_rfl) ?_
    refine ⟨fun h1 => ?_, fun h1 => ?_⟩
    · have hlt : j < G.length := by have := of_decide_eq_true h1; omega
      obtain ⟨g, hg⟩ : ∃ g, G[j]? = some g := ⟨_, List.getElem?_eq_getElem hlt⟩
      have hbd := tab_bound gd_len (l := G) hlt
      have hc0 : (gdV G)[0 + j * 2 + 0]? = some (.bool g.on) := tab_cell gd_len hg (by decide) rfl
      refine ⟨j, fun _ => ⟨rfl, hlt, hbd⟩, .bool g.on, rfl, fun _ => hc0, ?_⟩
      refine ⟨.t (.s (.bool ((G.take (j + 1)).any Gd.on))), fun β => told_bl (any_snoc hg).symm, rfl, ?_⟩
      exact e_again (j + 1) hlt (by omega) (into [0, 1, 2, 3, 4] ⟨⟨_, rfl, rfl⟩, ⟨_, rfl, rfl⟩, ⟨_, rfl, rfl⟩, ⟨_, rfl, rfl⟩, ⟨_, rfl, rfl⟩, ⟨_, rfl, rfl⟩, ⟨_, rfl, fvi (wrapSucc (by omega))⟩, trivial⟩ ⟨_, rfl, rfl⟩ rfl rfl rfl rfl)
    · have hz : j = G.length := by have := of_decide_eq_false h1; omega
      subst hz
      have hend : (bif (L.length : Int) == 0 then true else !(G.take G.length).any Gd.on) = true := by
        rcases hL with hL | hL
        · rw [hL]; rfl
        · rw [List.take_length, show G.any Gd.on = false by rw [List.any_eq_false]; intro g hg; rw [hL g hg]; decide]
          cases ((L.length : Int) == 0) <;> rfl
      refine ⟨.t (.s (.bool true)), fun β => told_tr hend, rfl, ?_⟩
      refine ⟨.t (.s (.bool true)), fun β => told_tr rfl, rfl, ?_⟩
      exact fin_k tt_ok (rs := rs_l32_chooses) rfl rfl (hK m trivial) [0, 1, 2] rfl rfl rfl rfl rfl rfl
noncomputable abbrev eLchooses : Ent := .st (conS (P := Try.prog) (f := f_l32_chooses) fun cargs σ0 => match cargs, σ0 with
  | [.agg cs, .s (.loc 0 0), .s (.sl 1 0 n cap), .s (.int .i32 clock), .s (.int .i32 now)], [.blk 33 [.sl 2 0 k k'], .view ys, .own 5 1 c' xs] =>
    some ⟨.ex ((Int × Int × Int × Int × Int × Int × Int × Int) × List Gd × Ram) fun p => .ask (cs = (kC p.1.1 p.1.2.1 p.1.2.2.1 p.1.2.2.2.1 p.1.2.2.2.2.1 p.1.2.2.2.2.2.1 p.1.2.2.2.2.2.2.1 p.1.2.2.2.2.2.2.2).sv ∧ n = p.2.1.length ∧ ys = gdV p.2.1 ∧ k = p.2.2.l.length ∧ k' = p.2.2.l.length ∧ c' = p.2.2.l.length ∧ xs = bytesI p.2.2.l ∧
        ((I32 p.1.1 ∧ I32 p.1.2.1 ∧ I32 p.1.2.2.1 ∧ I32 p.1.2.2.2.1 ∧ I32 p.1.2.2.2.2.1) ∧ (I32 p.1.2.2.2.2.2.1 ∧ I32 p.1.2.2.2.2.2.2.1 ∧ I32 p.1.2.2.2.2.2.2.2) ∧ (∀ g ∈ p.2.1, g.good) ∧ p.2.1.length ≤ 8 ∧ (0 ≤ now ∧ now ≤ 64) ∧ ChI clock now p.2.1 0 false p.1.2.2.2.1 p.2.2))
      (.all Ram (fun _ => True) fun m => .ret (.t (.s (.bool true))) [.blk 33 [.sl 2 0 m.l.length m.l.length], .view (gdV p.2.1), mOwn m.l]), fun K h => by
      obtain ⟨⟨⟨c0, c1, tk, t, ip, a, b, c⟩, G, m⟩, ⟨e1, e2, e3, e4, e5, e6, e7, h1⟩, h⟩ := h
      dsimp only at e1 e2 e3 e4 e5 e6 e7 h1 h
      subst e1; subst e2; subst e3; subst e4; subst e5; subst e6; subst e7
      exact lchooses_c clock now c0 c1 tk t ip a b c G cap m h1.1 h1.2.1 h1.2.2.1 h1.2.2.2.1 h1.2.2.2.2.1 h1.2.2.2.2.2 K h⟩
  | _, _ => none)
end Go.Proofs

namespace Go.Proofs
open Go Go.Sx
set_option maxRecDepth 10000
/-- The tick at which a time guard wakes it. -/
def wk0 : Option Int → Int
  | none => 64
  | some x => bif decide (x + 1 < 0) then 0 else x + 1
theorem wk0_eq (x : Int) : wk0 (some x) = bif decide (x + 1 < 0) then 0 else x + 1 := rfl
theorem wk0_step {e : Option Int} {g : Gd} (he : ∀ x, e = some x → -8 ≤ x ∧ x ≤ 55) :
    wk0 (mnA e g) = bif (bif g.on then decide (g.d + 1 < wk0 e) else false) then (bif decide (g.d + 1 < 0) then 0 else g.d + 1) else wk0 e := by
  have hg := g.d_in
  unfold mnA
  cases ho : g.on
  · rfl
  · cases e with
    | none =>
      have : decide (g.d + 1 < wk0 none) = true := decide_eq_true (by show g.d + 1 < 64; omega)
      rw [this]; rfl
    | some x =>
      have hx := he x rfl
      simp only [cond_true]
      by_cases hlt : g.d < x
      · rw [decide_eq_true hlt, cond_true]
        have : decide (g.d + 1 < wk0 (some x)) = true := by
          refine decide_eq_true ?_
          rw [wk0_eq]
          by_cases h0 : x + 1 < 0
          · rw [decide_eq_true h0, cond_true]; omega
          · rw [decide_eq_false h0, cond_false]; omega
        rw [this]; rfl
      · rw [decide_eq_false hlt, cond_false]
        by_cases h0 : x + 1 < 0
        · have e1 : wk0 (some x) = 0 := by rw [wk0_eq]; rw [decide_eq_true h0]; rfl
          rw [e1]
          by_cases h1 : g.d + 1 < 0
          · rw [decide_eq_true h1]; rfl
          · rw [decide_eq_false h1]; rfl
        · have e1 : wk0 (some x) = x + 1 := by rw [wk0_eq]; rw [decide_eq_false h0]; rfl
          rw [e1, decide_eq_false (show ¬ g.d + 1 < x + 1 by omega)]; rfl
theorem wk0_in {e : Option Int} (he : ∀ x, e = some x → -8 ≤ x ∧ x ≤ 55) : 0 ≤ wk0 e ∧ wk0 e ≤ 64 := by
  cases e with
  | none => exact ⟨by decide, by decide⟩
  | some x =>
    have := he x rfl
    rw [wk0_eq]
    by_cases h0 : x + 1 < 0
    · rw [decide_eq_true h0, cond_true]; omega
    · rw [decide_eq_false h0, cond_false]; omega
theorem wk0_some {x : Int} (h : 0 ≤ x) : wk0 (some x) = x + 1 := by rw [wk0_eq]; rw [decide_eq_false (by omega)]; rfl
def wkF (e : Option Int) (early : Int) : Int := bif (bif decide (early < 60) then decide (early < wk0 e) else false) then early else wk0 e
theorem wkF_cases (e : Option Int) (early : Int) : (early < 60 ∧ early < wk0 e ∧ wkF e early = early) ∨ ((60 ≤ early ∨ wk0 e ≤ early) ∧ wkF e early = wk0 e) := by
  unfold wkF
  by_cases h1 : early < 60
  · by_cases h2 : early < wk0 e
    · left; rw [decide_eq_true h1, decide_eq_true h2]; exact ⟨h1, h2, rfl⟩
    · right; rw [decide_eq_true h1, decide_eq_false h2]; exact ⟨.inr (by omega), rfl⟩
  · right; rw [decide_eq_false h1]; exact ⟨.inl (by omega), rfl⟩
/-- What holds ahead of the tick n. -/
inductive LpI (clock wk : Int) (G : List Gd) : Nat → Core → Ram → Prop
  | on {c1 tk ip a b c : Int} {m : Ram} (h : ChI clock 0 G 0 false NP m) (hwk : wk = 0) (hr : I32 c1 ∧ I32 tk ∧ I32 ip ∧ I32 a ∧ I32 b ∧ I32 c) : LpI clock wk G 0 (kC clock c1 tk NP ip a b c) m
  | wait {n : Nat} {k : Core} {m : Ram} (h : WaI clock (mn G) n k m) (hle : ∀ x, mn G = some x → (n : Int) ≤ x) (hn : (n : Int) ≤ wk) (h64 : n ≤ 64) : LpI clock wk G n k m
  | rdy {n : Nat} {k : Core} {m : Ram} (h : RdI clock n NP k m) (ho : ChI clock n G 0 false NP m) (hwk : wk = n) (hn : n < 64) : LpI clock wk G n k m
theorem lp_start {clock early : Int} {G : List Gd} {k : Core} {m : Ram} (h : TwI clock (mn G) (early == 0) k m) (he : 0 ≤ early) : LpI clock (wkF (mn G) early) G 0 k m := by
  have hw := wk0_in (fun x hx => mn_in G hx)
  have hc := wkF_cases (mn G) early
  cases h with
  | on h hg hr =>
    refine .on (ch_on h (fun _ => rfl)) ?_ hr
    rcases hg with hg | ⟨x, hx1, hx2⟩
    · have : early = 0 := by simpa using hg
      rcases hc with ⟨_, _, h⟩ | ⟨h1, h⟩ <;> omega
    · have : wk0 (mn G) = 0 := by
        have hxr := mn_in G hx1
        rw [hx1]; rw [wk0_eq]
        by_cases h0 : x + 1 < 0
        · rw [decide_eq_true h0]; rfl
        · rw [decide_eq_false h0, cond_false]; omega
      rcases hc with ⟨_, _, h⟩ | ⟨h1, h⟩ <;> omega
  | wait h hg =>
    refine .wait h (fun x hx => ?_) ?_ (by decide)
    · have := hg.2 x hx; simpa using this
    · rcases hc with ⟨_, _, h⟩ | ⟨h1, h⟩ <;> (rw [h]; simp; omega)
/-- Something else makes it ready. -/
theorem lp_early {early : Int} {G : List Gd} {n : Nat} (hle : ∀ x, mn G = some x → (n : Int) ≤ x) (hn : (n : Int) = early) (h60 : n < 60) : wkF (mn G) early = n := by
  rcases wkF_cases (mn G) early with ⟨_, _, h⟩ | ⟨h1, h⟩
  · omega
  · exfalso
    have : (n : Int) < wk0 (mn G) := by
      cases hm : mn G with
      | none => show (n : Int) < 64; omega
      | some x => have := hle x hm; rw [wk0_some (by omega)]; omega
    omega
theorem lp_tick {clock early : Int} {G : List Gd} {n : Nat} {k : Core} {m : Ram} (h : WaI clock (mn G) n k m) (hle : ∀ x, mn G = some x → (n : Int) ≤ x) (hn : (n : Int) ≤ wkF (mn G) early) (h64 : n < 64) (hne : ¬ ((n : Int) = early ∧ n < 60)) :
    ∃ k' m', ttkR k m = (k', 0, m') ∧ LpI clock (wkF (mn G) early) G (n + 1) k' m' := by
  obtain ⟨k', m', hT, hI⟩ := wa_tick h (fun x hx => ⟨hle x hx, (mn_in G hx).2⟩) h64
  refine ⟨k', m', hT, ?_⟩
  have hc := wkF_cases (mn G) early
  rcases hI with ⟨hI, hle'⟩ | ⟨he, hR, hO⟩
  · refine .wait hI hle' ?_ (by omega)
    rcases hc with ⟨h1, h2, h3⟩ | ⟨h1, h3⟩
    · omega
    · cases hm : mn G with
      | none => rw [hm] at h3; rw [h3]; show ((n + 1 : Nat) : Int) ≤ 64; omega
      | some x =>
        rw [hm] at h3
        have := hle x hm
        rw [h3, wk0_some (by omega)]; omega
  · have hx := mn_in G he
    refine .rdy hR (ch_on hO (fun hm => by rw [he] at hm; cases hm)) ?_ (by omega)
    rw [he] at hc hn ⊢
    have e1 : wk0 (some (n : Int)) = (n : Int) + 1 := wk0_some (by omega)
    rcases hc with ⟨h1, h2, h3⟩ | ⟨h1, h3⟩ <;> omega
theorem lp_never {early : Int} {e : Option Int} (hr : ∀ x, e = some x → -8 ≤ x ∧ x ≤ 55) (hn : 64 ≤ wkF e early) : wkF e early = 64 := by
  have hw := wk0_in hr
  rcases wkF_cases e early with ⟨h1, h2, h3⟩ | ⟨h1, h3⟩ <;> omega
theorem fvj {i : Nat} (h : i < 1000) : FV.t (.s (.int .i32 (IntKind.i32.wrap ((i : Int) + 1)))) = .t (.s (.int .i32 ((i + 1 : Nat) : Int))) := by
  rw [show IntKind.i32.wrap ((i : Int) + 1) = ((i + 1 : Nat) : Int) by rw [IntKind.wrap_i32]; omega]
noncomputable abbrev ctTc2 : CT := [(f_l32_head, eHead), (f_mem_New, eNew), (f_r29_Reset, eReset), (f_l32_space, .pure spSpace), (f_l32_running, in_l32_running [(f_r29_Nobody, in_r29_Nobody [])]), (f_l32_enable, eLenable), (f_l32_chooses, eLchooses), (f_mem_Mem_SetWord, eSetWordT), (f_sched_Append, eAppend), (f_sched_Settle, eSettle), (f_timer_Tick, eTTick)]
theorem ctTc2_ok : CTok Try.prog ctTc2 := ⟨con_ok cal_l32_head _, con_ok cal_mem_New _, con_ok cal_r29_Reset _, ceSpace, in_l32_running_ok ⟨in_r29_Nobody_ok (ct := []) trivial, trivial⟩, con_ok cal_l32_enable _, con_ok cal_l32_chooses _, con_ok cal_mem_Mem_SetWord _, con_ok cal_sched_Append _, con_ok cal_sched_Settle _, con_ok cal_timer_Tick _, trivial⟩
set_option maxHeartbeats 4000000 in
theorem TimerChooses_c (clock early : Int) (G : List Gd) (cap : Nat) (hck : I32 clock) (hea : 0 ≤ early ∧ early < 256) (hG : ∀ g ∈ G, g.good) : Con Try.prog f_l32_TimerChooses [.s (.int .i32 clock), .s (.sl 0 0 G.length cap), .s (.int .u8 early)] [.view (gdV G)] (.ret (.t (.s (.bool true))) [.view (gdV G)]) := by
  intro K hK
  refine enter fn_l32_TimerChooses rfl nt_l32_TimerChooses rfl rfl (fun φ w0 β0 F => ?_)
  refine c_run tt_ok ctTc2_ok k_l32_TimerChooses [] 90 (by kernel_rfl) ?_
  refine ⟨fun h0 => ?_, fun h0 => ?_⟩
  · exact fin_k tt_ok (rs := rs_l32_TimerChooses) rfl rfl hK [0] rfl rfl rfl rfl rfl rfl
  have hGl : G.length ≤ 8 := by
    have := of_decide_eq_false h0; omega
  refine ⟨fun _ => ?_, fun h => absurd h (by decide)⟩
  refine ⟨⟨by decide, by decide⟩, ?_⟩
  refine ⟨(clock, G, Ram.zz), ⟨rfl, rfl, rfl, rfl, rfl, rfl, rfl, ⟨hck, hG, hGl, by simp [Ram.zz]⟩⟩, ?_⟩
  rintro ⟨k, m⟩ hTw
  dsimp only at hTw
  refine ⟨fun h => absurd (show (!true) = true from h) (by decide), fun _ => ?_⟩
  have hw9 : ∀ i, 0 ≤ wk0 (mn (G.take i)) ∧ wk0 (mn (G.take i)) ≤ 64 := fun i => wk0_in (fun x hx => mn_in _ hx)
  show WpC _ _ _ _ _
  refine c_loop (α := Nat) (fun i => i ≤ G.length) (fun i => G.length - i)
    (fun i => [(0, .t (.s (.int .i32 clock)), none), (1, .t (.s (.sl 0 0 G.length cap)), none), (2, .t (.s (.int .u8 early)), none), (6, .t (.s (.bool false)), none), (7, .t (.s (.loc 1 0)), none), (9, .t (.s (.int .i32 (spc 0))), none), (10, .t (.s (.loc 3 0)), none), (12, .t (.s (.int .i32 (wk0 (mn (G.take i))))), none), (13, .t (.s (.int .i64 (i : Int))), none)])
    (fun _ => [.view (gdV G), .blk 33 [.sl 2 0 m.l.length m.l.length], mOwn m.l, .blk 26 k.sv]) 0 (Nat.zero_le _) ?_ ?_
  · exact into [0, 1, 2, 7] ⟨⟨_, rfl, rfl⟩, ⟨_, rfl, rfl⟩, ⟨_, rfl, rfl⟩, ⟨_, rfl, rfl⟩, ⟨_, rfl, rfl⟩, ⟨_, rfl, rfl⟩, ⟨_, rfl, rfl⟩, ⟨_, rfl, rfl⟩, ⟨_, rfl, rfl⟩, trivial⟩ ⟨_, rfl, rfl⟩ rfl rfl rfl rfl
  rintro i hi
  refine c_run' tt_ok ctTc2_ok k_l32_TimerChooses [100061, 100072, 100075, 100077, 100084, 100086] 90 (by kernel_rfl) (by kernel_rfl) ?_
  refine ⟨fun h1 => ?_, fun h1 => ?_⟩
  · have hlt : i < G.length := by have := of_decide_eq_true h1; omega
    obtain ⟨g, hg⟩ : ∃ g, G[i]? = some g := ⟨_, List.getElem?_eq_getElem hlt⟩
    have hgd := hG g (List.mem_of_getElem? hg)
    have hbd := tab_bound gd_len (l := G) hlt
    have hc0 : (gdV G)[0 + i * 2 + 0]? = some (.bool g.on) := tab_cell gd_len hg (by decide) rfl
    have hc1 : (gdV G)[0 + i * 2 + 1]? = some (.int .u8 g.dl) := tab_cell gd_len hg (by decide) rfl
    have hst := wk0_step (e := mn (G.take i)) (g := g) (fun x hx => mn_in _ hx)
    rw [← mn_snoc, show G.take i ++ [g] = G.take (i + 1) by rw [List.take_add_one, hg]; rfl] at hst
    have hgi := g.d_in
    have hwd : IntKind.i32.wrap (g.d + 1) = g.d + 1 := by rw [IntKind.wrap_i32]; omega
    refine ⟨i, ⟨rfl, hlt, hbd⟩, .int .u8 g.dl, rfl, hc1, ?_⟩
    refine ⟨.t (.s (.int .i32 g.d)), fun β => told_jl (gd_conv2 hgd).symm, rfl, ?_⟩
    refine ⟨i, ⟨rfl, hlt, hbd⟩, .bool g.on, rfl, hc0, ?_⟩
    rcases hB : (bif g.on then decide (g.d + 1 < wk0 (mn (G.take i))) else false) with _ | _
    · rw [hB, cond_false] at hst
      refine ⟨.t (.s (.bool false)), fun β => told_bl (by rw [hwd]; exact hB), rfl, ?_⟩
      refine ⟨fun h => absurd h (by decide), fun _ => ?_⟩
      exact e_again (i + 1) hlt (by omega) (into [0, 1, 2, 3] ⟨⟨_, rfl, rfl⟩, ⟨_, rfl, rfl⟩, ⟨_, rfl, rfl⟩, ⟨_, rfl, rfl⟩, ⟨_, rfl, rfl⟩, ⟨_, rfl, rfl⟩, ⟨_, rfl, rfl⟩, ⟨_, rfl, by rw [← hst]; rfl⟩, ⟨_, rfl, fvi (wrapSucc (by omega))⟩, trivial⟩ ⟨_, rfl, rfl⟩ rfl rfl rfl rfl)
    · rw [hB, cond_true] at hst
      refine ⟨.t (.s (.bool true)), fun β => told_tr (by rw [hwd]; exact hB), rfl, ?_⟩
      refine ⟨fun _ => ?_, fun h => absurd h (by decide)⟩
      refine ⟨.t (.s (.int .i32 (wk0 (mn (G.take (i + 1)))))), fun β => told_jl (by rw [hst, hwd]; by_cases h : g.d + 1 < 0 <;> simp [h]), rfl, ?_⟩
      exact e_again (i + 1) hlt (by omega) (into [0, 1, 2, 3] ⟨⟨_, rfl, rfl⟩, ⟨_, rfl, rfl⟩, ⟨_, rfl, rfl⟩, ⟨_, rfl, rfl⟩, ⟨_, rfl, rfl⟩, ⟨_, rfl, rfl⟩, ⟨_, rfl, rfl⟩, ⟨_, rfl, rfl⟩, ⟨_, rfl, fvi (wrapSucc (by omega))⟩, trivial⟩ ⟨_, rfl, rfl⟩ rfl rfl rfl rfl)
  · have hz : i = G.length := by have := of_decide_eq_false h1; omega
    subst hz
    rw [List.take_length]
    have hwe : IntKind.i32.wrap early = early := by rw [IntKind.wrap_i32]; omega
    have hI0 : I32 0 := ⟨by decide, by decide⟩
    have hNP : I32 NP := ⟨by decide, by decide⟩
    refine ⟨.t (.s (.int .i32 early)), fun β => told_jl hwe.symm, rfl, ?_⟩
    rcases hE : (bif decide (early < 60) then decide (early < wk0 (mn G)) else false) with _ | _
    · have hwF : wk0 (mn G) = wkF (mn G) early := by unfold wkF; rw [hE]; rfl
      refine ⟨.t (.s (.bool false)), fun β => told_bl (by rw [hwe]; exact hE), rfl, ?_⟩
      refine ⟨fun h => absurd h (by decide), fun _ => ?_⟩
      show WpC _ _ _ _ _
      refine c_loop (α := Nat × Core × Ram) (fun x => LpI clock (wkF (mn G) early) G x.1 x.2.1 x.2.2) (fun x => 65 - x.1)
        (fun x => [(0, .t (.s (.int .i32 clock)), none), (1, .t (.s (.sl 0 0 G.length cap)), none), (2, .t (.s (.int .u8 early)), none), (6, .t (.s (.bool false)), none), (7, .t (.s (.loc 1 0)), none), (9, .t (.s (.int .i32 (spc 0))), none), (10, .t (.s (.loc 3 0)), none), (12, .t (.s (.int .i32 (wkF (mn G) early))), none), (15, .t (.s (.int .i32 (x.1 : Int))), none)])
        (fun x => [.view (gdV G), .blk 33 [.sl 2 0 x.2.2.l.length x.2.2.l.length], mOwn x.2.2.l, .blk 26 x.2.1.sv]) (0, k, m) (lp_start hTw hea.1) ?_ ?_
      · exact into [0, 1, 2, 3] ⟨⟨_, rfl, rfl⟩, ⟨_, rfl, rfl⟩, ⟨_, rfl, rfl⟩, ⟨_, rfl, rfl⟩, ⟨_, rfl, rfl⟩, ⟨_, rfl, rfl⟩, ⟨_, rfl, rfl⟩, ⟨_, rfl, by rw [← hwF]; rfl⟩, ⟨_, rfl, rfl⟩, trivial⟩ ⟨_, rfl, rfl⟩ rfl rfl rfl rfl
      rintro ⟨n, k, m⟩ hL
      dsimp only at hL
      dsimp only
      cases hL with
      | @on c1 tk ip a b c _ h hwk hr =>
        refine c_run' tt_ok ctTc2_ok k_l32_TimerChooses [100159, 100164] 90 (by kernel_rfl) (by kernel_rfl) ?_
        refine ⟨fun h => absurd h (by decide), fun _ => ?_⟩
        refine ⟨fun h => absurd (show (!true) = true from h) (by decide), fun _ => ?_⟩
        refine ⟨.t (.s (.bool false)), fun β => told_bl (by rw [hwk]; simp), rfl, ?_⟩
        refine ⟨.t (.s (.bool false)), fun β => told_bl (rfl), rfl, ?_⟩
        refine ⟨fun h => absurd h (by decide), fun _ => ?_⟩
        refine ⟨((clock, c1, tk, NP, ip, a, b, c), G, m), ⟨rfl, rfl, rfl, rfl, rfl, rfl, rfl, ⟨⟨hck, hr.1, hr.2.1, hNP, hr.2.2.1⟩, hr.2.2.2, hG, hGl, by rw [hwk]; omega, by rw [hwk]; exact h⟩⟩, ?_⟩
        intro mf _
        refine ⟨fun _ => ?_, fun h => absurd h (by decide)⟩
        exact fin_k tt_ok (rs := rs_l32_TimerChooses) rfl rfl hK [0] rfl rfl rfl rfl rfl rfl
      | wait h hle hn h64 =>
        obtain ⟨c1, tk, hk, hi1, hi2⟩ := h.kf
        have hkok : (kA (IntKind.i32.wrap (clock + (n : Int))) c1 tk (fstQ (qO (mn G)))).ok := kA_ok (I32_wrap _) hi1 hi2 (fq_I32 _)
        by_cases h64' : n = 64
        · have hwk : wkF (mn G) early = 64 := lp_never (fun x hx => mn_in _ hx) (by omega)
          subst hk
          subst h64'
          refine c_run' tt_ok ctTc2_ok k_l32_TimerChooses [100153] 90 (by kernel_rfl) (by kernel_rfl) ?_
          refine ⟨fun h => absurd h (by decide), fun _ => ?_⟩
          refine ⟨fun _ => ?_, fun h => absurd (show (!false) = false from h) (by decide)⟩
          refine ⟨.t (.s (.bool true)), fun β => told_tr (by rw [hwk]; rfl), rfl, ?_⟩
          refine ⟨fun _ => ?_, fun h => absurd h (by decide)⟩
          exact fin_k tt_ok (rs := rs_l32_TimerChooses) rfl rfl hK [0] rfl rfl rfl rfl rfl rfl
        have hn64 : n < 64 := by omega
        by_cases hE : (n : Int) = early ∧ n < 60
        · have hwk : wkF (mn G) early = (n : Int) := lp_early hle hE.1 hE.2
          subst hk
          refine c_run' tt_ok ctTc2_ok k_l32_TimerChooses [100098, 100104, 100110, 100113, 100129, 100159, 100164] 90 (by kernel_rfl) (by kernel_rfl) ?_
          refine ⟨fun _ => ?_, fun h => absurd (show (bif decide ((n : Int) < 64) then !false else false) = false from h) (by rw [decide_eq_true (show (n : Int) < 64 by omega)]; decide)⟩
          refine ⟨.t (.s (.int .i32 early)), fun β => told_jl hwe.symm, rfl, ?_⟩
          refine ⟨.t (.s (.bool true)), fun β => told_tr (by rw [hE.1, decide_eq_true (show early < 60 by omega)]; simp), rfl, ?_⟩
          refine ⟨.t (.s (.bool true)), fun β => told_tr (rfl), rfl, ?_⟩
          refine ⟨fun _ => ?_, fun h => absurd h (by decide)⟩
          obtain ⟨k', m', herr, hset, hA, hRd, hCh, hok⟩ := early_law h hle
          refine ⟨.t (.s (.int .i32 (spc 0 - 12))), fun β => told_jl (by decide), rfl, ?_⟩
          refine ⟨m, ⟨rfl, rfl, rfl, rfl, ⟨by decide, by decide⟩⟩, ?_⟩
          rw [hset]
          refine ⟨(m', k', 0, m'), ⟨rfl, rfl, rfl, rfl, ⟨hok, ⟨by decide, by decide⟩⟩, hA⟩, ?_⟩
          refine ⟨fun h => absurd (show ((0 : Int) != 0) = true from h) (by decide), fun _ => ?_⟩
          obtain ⟨d1, td, ip, hS, hf, hok2, hi1, hi2, hi3, _⟩ := settle_law hRd (fq_I32 (mn G))
          refine ⟨.t (.s (.bool true)), fun β => told_tr (by rw [hf]; rfl), rfl, ?_⟩
          refine ⟨fun _ => ?_, fun h => absurd h (by decide)⟩
          refine ⟨(m', kC (IntKind.i32.wrap (clock + (n : Int))) d1 td (fstQ (qO (mn G))) ip 0 0 0, 0), ⟨rfl, rfl, rfl, rfl, hok2, hS⟩, ?_⟩
          refine ⟨fun h => absurd (show ((0 : Int) != 0) = true from h) (by decide), fun _ => ?_⟩
          refine ⟨fun h => absurd (show (!true) = true from h) (by decide), fun _ => ?_⟩
          refine ⟨.t (.s (.bool false)), fun β => told_bl (by rw [hwk]; simp), rfl, ?_⟩
          refine ⟨.t (.s (.bool false)), fun β => told_bl (rfl), rfl, ?_⟩
          refine ⟨fun h => absurd h (by decide), fun _ => ?_⟩
          refine ⟨((IntKind.i32.wrap (clock + (n : Int)), d1, td, fstQ (qO (mn G)), ip, 0, 0, 0), G, m'), ⟨rfl, rfl, rfl, rfl, rfl, rfl, rfl, ⟨⟨I32_wrap _, hi1, hi2, fq_I32 _, hi3⟩, ⟨hI0, hI0, hI0⟩, hG, hGl, by rw [hwk]; omega, by rw [hwk]; exact hCh⟩⟩, ?_⟩
          intro mf _
          refine ⟨fun _ => ?_, fun h => absurd h (by decide)⟩
          exact fin_k tt_ok (rs := rs_l32_TimerChooses) rfl rfl hK [0] rfl rfl rfl rfl rfl rfl
        · obtain ⟨k', m', hT, hL'⟩ := lp_tick (early := early) h hle hn hn64 hE
          have hEf : (bif (n : Int) == early then decide ((n : Int) < 60) else false) = false := by
            by_cases h1 : (n : Int) = early
            · rw [decide_eq_false (fun h2 => hE ⟨h1, by omega⟩)]; cases ((n : Int) == early) <;> rfl
            · rw [show ((n : Int) == early) = false by simpa using h1]; rfl
          subst hk
          refine c_run' tt_ok ctTc2_ok k_l32_TimerChooses [100098, 100104, 100110, 100129] 90 (by kernel_rfl) (by kernel_rfl) ?_
          refine ⟨fun _ => ?_, fun h => absurd (show (bif decide ((n : Int) < 64) then !false else false) = false from h) (by rw [decide_eq_true (show (n : Int) < 64 by omega)]; decide)⟩
          refine ⟨.t (.s (.int .i32 early)), fun β => told_jl hwe.symm, rfl, ?_⟩
          refine ⟨.t (.s (.bool false)), fun β => told_bl (hEf), rfl, ?_⟩
          refine ⟨.t (.s (.bool false)), fun β => told_bl (rfl), rfl, ?_⟩
          refine ⟨fun h => absurd h (by decide), fun _ => ?_⟩
          refine ⟨.t (.s (.bool false)), fun β => told_bl (rfl), rfl, ?_⟩
          refine ⟨fun h => absurd h (by decide), fun _ => ?_⟩
          refine ⟨(m, k', 0, m'), ⟨rfl, rfl, rfl, rfl, hkok, hT⟩, ?_⟩
          refine ⟨fun h => absurd (show ((0 : Int) != 0) = true from h) (by decide), fun _ => ?_⟩
          refine e_again (n + 1, k', m') hL' (by dsimp only; omega) (into [0, 1, 2, 3] ⟨⟨_, rfl, rfl⟩, ⟨_, rfl, rfl⟩, ⟨_, rfl, rfl⟩, ⟨_, rfl, rfl⟩, ⟨_, rfl, rfl⟩, ⟨_, rfl, rfl⟩, ⟨_, rfl, rfl⟩, ⟨_, rfl, rfl⟩, ⟨_, rfl, fvj (by omega)⟩, trivial⟩ ⟨_, rfl, rfl⟩ rfl rfl rfl rfl)
      | rdy h ho hwk hn =>
        obtain ⟨c1, tk, hk, hi1, hi2⟩ := h.kf
        obtain ⟨d1, td, ip, hS, hf, hok2, hd1, hd2, hd3, _⟩ := settle_law h hNP
        subst hk
        refine c_run' tt_ok ctTc2_ok k_l32_TimerChooses [100098, 100110, 100129, 100159, 100164] 90 (by kernel_rfl) (by kernel_rfl) ?_
        refine ⟨fun _ => ?_, fun h => absurd (show (bif decide ((n : Int) < 64) then !false else false) = false from h) (by rw [decide_eq_true (show (n : Int) < 64 by omega)]; decide)⟩
        refine ⟨.t (.s (.int .i32 early)), fun β => told_jl hwe.symm, rfl, ?_⟩
        refine ⟨.t (.s (.bool false)), fun β => told_bl (by cases (bif (n : Int) == early then decide ((n : Int) < 60) else false) <;> rfl), rfl, ?_⟩
        refine ⟨fun h => absurd h (by decide), fun _ => ?_⟩
        refine ⟨.t (.s (.bool true)), fun β => told_tr (rfl), rfl, ?_⟩
        refine ⟨fun _ => ?_, fun h => absurd h (by decide)⟩
        refine ⟨(m, kC (IntKind.i32.wrap (clock + (n : Int))) d1 td NP ip 0 0 0, 0), ⟨rfl, rfl, rfl, rfl, hok2, hS⟩, ?_⟩
        refine ⟨fun h => absurd (show ((0 : Int) != 0) = true from h) (by decide), fun _ => ?_⟩
        refine ⟨fun h => absurd (show (!true) = true from h) (by decide), fun _ => ?_⟩
        refine ⟨.t (.s (.bool false)), fun β => told_bl (by rw [hwk]; simp), rfl, ?_⟩
        refine ⟨.t (.s (.bool false)), fun β => told_bl (rfl), rfl, ?_⟩
        refine ⟨fun h => absurd h (by decide), fun _ => ?_⟩
        refine ⟨((IntKind.i32.wrap (clock + (n : Int)), d1, td, NP, ip, 0, 0, 0), G, m), ⟨rfl, rfl, rfl, rfl, rfl, rfl, rfl, ⟨⟨I32_wrap _, hd1, hd2, hNP, hd3⟩, ⟨hI0, hI0, hI0⟩, hG, hGl, by rw [hwk]; omega, by rw [hwk]; exact ho⟩⟩, ?_⟩
        intro mf _
        refine ⟨fun _ => ?_, fun h => absurd h (by decide)⟩
        exact fin_k tt_ok (rs := rs_l32_TimerChooses) rfl rfl hK [0] rfl rfl rfl rfl rfl rfl
    · have hwF : early = wkF (mn G) early := by unfold wkF; rw [hE]; rfl
      refine ⟨.t (.s (.bool true)), fun β => told_tr (by rw [hwe]; exact hE), rfl, ?_⟩
      refine ⟨fun _ => ?_, fun h => absurd h (by decide)⟩
      refine ⟨.t (.s (.int .i32 early)), fun β => told_jl hwe.symm, rfl, ?_⟩
      show WpC _ _ _ _ _
      refine c_loop (α := Nat × Core × Ram) (fun x => LpI clock (wkF (mn G) early) G x.1 x.2.1 x.2.2) (fun x => 65 - x.1)
        (fun x => [(0, .t (.s (.int .i32 clock)), none), (1, .t (.s (.sl 0 0 G.length cap)), none), (2, .t (.s (.int .u8 early)), none), (6, .t (.s (.bool false)), none), (7, .t (.s (.loc 1 0)), none), (9, .t (.s (.int .i32 (spc 0))), none), (10, .t (.s (.loc 3 0)), none), (12, .t (.s (.int .i32 (wkF (mn G) early))), none), (15, .t (.s (.int .i32 (x.1 : Int))), none)])
        (fun x => [.view (gdV G), .blk 33 [.sl 2 0 x.2.2.l.length x.2.2.l.length], mOwn x.2.2.l, .blk 26 x.2.1.sv]) (0, k, m) (lp_start hTw hea.1) ?_ ?_
      · exact into [0, 1, 2, 3] ⟨⟨_, rfl, rfl⟩, ⟨_, rfl, rfl⟩, ⟨_, rfl, rfl⟩, ⟨_, rfl, rfl⟩, ⟨_, rfl, rfl⟩, ⟨_, rfl, rfl⟩, ⟨_, rfl, rfl⟩, ⟨_, rfl, by rw [← hwF]; rfl⟩, ⟨_, rfl, rfl⟩, trivial⟩ ⟨_, rfl, rfl⟩ rfl rfl rfl rfl
      rintro ⟨n, k, m⟩ hL
      dsimp only at hL
      dsimp only
      cases hL with
      | @on c1 tk ip a b c _ h hwk hr =>
        refine c_run' tt_ok ctTc2_ok k_l32_TimerChooses [100159, 100164] 90 (by kernel_rfl) (by kernel_rfl) ?_
        refine ⟨fun h => absurd h (by decide), fun _ => ?_⟩
        refine ⟨fun h => absurd (show (!true) = true from h) (by decide), fun _ => ?_⟩
        refine ⟨.t (.s (.bool false)), fun β => told_bl (by rw [hwk]; simp), rfl, ?_⟩
        refine ⟨.t (.s (.bool false)), fun β => told_bl (rfl), rfl, ?_⟩
        refine ⟨fun h => absurd h (by decide), fun _ => ?_⟩
        refine ⟨((clock, c1, tk, NP, ip, a, b, c), G, m), ⟨rfl, rfl, rfl, rfl, rfl, rfl, rfl, ⟨⟨hck, hr.1, hr.2.1, hNP, hr.2.2.1⟩, hr.2.2.2, hG, hGl, by rw [hwk]; omega, by rw [hwk]; exact h⟩⟩, ?_⟩
        intro mf _
        refine ⟨fun _ => ?_, fun h => absurd h (by decide)⟩
        exact fin_k tt_ok (rs := rs_l32_TimerChooses) rfl rfl hK [0] rfl rfl rfl rfl rfl rfl
      | wait h hle hn h64 =>
        obtain ⟨c1, tk, hk, hi1, hi2⟩ := h.kf
        have hkok : (kA (IntKind.i32.wrap (clock + (n : Int))) c1 tk (fstQ (qO (mn G)))).ok := kA_ok (I32_wrap _) hi1 hi2 (fq_I32 _)
        by_cases h64' : n = 64
        · have hwk : wkF (mn G) early = 64 := lp_never (fun x hx => mn_in _ hx) (by omega)
          subst hk
          subst h64'
          refine c_run' tt_ok ctTc2_ok k_l32_TimerChooses [100153] 90 (by kernel_rfl) (by kernel_rfl) ?_
          refine ⟨fun h => absurd h (by decide), fun _ => ?_⟩
          refine ⟨fun _ => ?_, fun h => absurd (show (!false) = false from h) (by decide)⟩
          refine ⟨.t (.s (.bool true)), fun β => told_tr (by rw [hwk]; rfl), rfl, ?_⟩
          refine ⟨fun _ => ?_, fun h => absurd h (by decide)⟩
          exact fin_k tt_ok (rs := rs_l32_TimerChooses) rfl rfl hK [0] rfl rfl rfl rfl rfl rfl
        have hn64 : n < 64 := by omega
        by_cases hE : (n : Int) = early ∧ n < 60
        · have hwk : wkF (mn G) early = (n : Int) := lp_early hle hE.1 hE.2
          subst hk
          refine c_run' tt_ok ctTc2_ok k_l32_TimerChooses [100098, 100104, 100110, 100113, 100129, 100159, 100164] 90 (by kernel_rfl) (by kernel_rfl) ?_
          refine ⟨fun _ => ?_, fun h => absurd (show (bif decide ((n : Int) < 64) then !false else false) = false from h) (by rw [decide_eq_true (show (n : Int) < 64 by omega)]; decide)⟩
          refine ⟨.t (.s (.int .i32 early)), fun β => told_jl hwe.symm, rfl, ?_⟩
          refine ⟨.t (.s (.bool true)), fun β => told_tr (by rw [hE.1, decide_eq_true (show early < 60 by omega)]; simp), rfl, ?_⟩
          refine ⟨.t (.s (.bool true)), fun β => told_tr (rfl), rfl, ?_⟩
          refine ⟨fun _ => ?_, fun h => absurd h (by decide)⟩
          obtain ⟨k', m', herr, hset, hA, hRd, hCh, hok⟩ := early_law h hle
          refine ⟨.t (.s (.int .i32 (spc 0 - 12))), fun β => told_jl (by decide), rfl, ?_⟩
          refine ⟨m, ⟨rfl, rfl, rfl, rfl, ⟨by decide, by decide⟩⟩, ?_⟩
          rw [hset]
          refine ⟨(m', k', 0, m'), ⟨rfl, rfl, rfl, rfl, ⟨hok, ⟨by decide, by decide⟩⟩, hA⟩, ?_⟩
          refine ⟨fun h => absurd (show ((0 : Int) != 0) = true from h) (by decide), fun _ => ?_⟩
          obtain ⟨d1, td, ip, hS, hf, hok2, hi1, hi2, hi3, _⟩ := settle_law hRd (fq_I32 (mn G))
          refine ⟨.t (.s (.bool true)), fun β => told_tr (by rw [hf]; rfl), rfl, ?_⟩
          refine ⟨fun _ => ?_, fun h => absurd h (by decide)⟩
          refine ⟨(m', kC (IntKind.i32.wrap (clock + (n : Int))) d1 td (fstQ (qO (mn G))) ip 0 0 0, 0), ⟨rfl, rfl, rfl, rfl, hok2, hS⟩, ?_⟩
          refine ⟨fun h => absurd (show ((0 : Int) != 0) = true from h) (by decide), fun _ => ?_⟩
          refine ⟨fun h => absurd (show (!true) = true from h) (by decide), fun _ => ?_⟩
          refine ⟨.t (.s (.bool false)), fun β => told_bl (by rw [hwk]; simp), rfl, ?_⟩
          refine ⟨.t (.s (.bool false)), fun β => told_bl (rfl), rfl, ?_⟩
          refine ⟨fun h => absurd h (by decide), fun _ => ?_⟩
          refine ⟨((IntKind.i32.wrap (clock + (n : Int)), d1, td, fstQ (qO (mn G)), ip, 0, 0, 0), G, m'), ⟨rfl, rfl, rfl, rfl, rfl, rfl, rfl, ⟨⟨I32_wrap _, hi1, hi2, fq_I32 _, hi3⟩, ⟨hI0, hI0, hI0⟩, hG, hGl, by rw [hwk]; omega, by rw [hwk]; exact hCh⟩⟩, ?_⟩
          intro mf _
          refine ⟨fun _ => ?_, fun h => absurd h (by decide)⟩
          exact fin_k tt_ok (rs := rs_l32_TimerChooses) rfl rfl hK [0] rfl rfl rfl rfl rfl rfl
        · obtain ⟨k', m', hT, hL'⟩ := lp_tick (early := early) h hle hn hn64 hE
          have hEf : (bif (n : Int) == early then decide ((n : Int) < 60) else false) = false := by
            by_cases h1 : (n : Int) = early
            · rw [decide_eq_false (fun h2 => hE ⟨h1, by omega⟩)]; cases ((n : Int) == early) <;> rfl
            · rw [show ((n : Int) == early) = false by simpa using h1]; rfl
          subst hk
          refine c_run' tt_ok ctTc2_ok k_l32_TimerChooses [100098, 100104, 100110, 100129] 90 (by kernel_rfl) (by kernel_rfl) ?_
          refine ⟨fun _ => ?_, fun h => absurd (show (bif decide ((n : Int) < 64) then !false else false) = false from h) (by rw [decide_eq_true (show (n : Int) < 64 by omega)]; decide)⟩
          refine ⟨.t (.s (.int .i32 early)), fun β => told_jl hwe.symm, rfl, ?_⟩
          refine ⟨.t (.s (.bool false)), fun β => told_bl (hEf), rfl, ?_⟩
          refine ⟨.t (.s (.bool false)), fun β => told_bl (rfl), rfl, ?_⟩
          refine ⟨fun h => absurd h (by decide), fun _ => ?_⟩
          refine ⟨.t (.s (.bool false)), fun β => told_bl (rfl), rfl, ?_⟩
          refine ⟨fun h => absurd h (by decide), fun _ => ?_⟩
          refine ⟨(m, k', 0, m'), ⟨rfl, rfl, rfl, rfl, hkok, hT⟩, ?_⟩
          refine ⟨fun h => absurd (show ((0 : Int) != 0) = true from h) (by decide), fun _ => ?_⟩
          refine e_again (n + 1, k', m') hL' (by dsimp only; omega) (into [0, 1, 2, 3] ⟨⟨_, rfl, rfl⟩, ⟨_, rfl, rfl⟩, ⟨_, rfl, rfl⟩, ⟨_, rfl, rfl⟩, ⟨_, rfl, rfl⟩, ⟨_, rfl, rfl⟩, ⟨_, rfl, rfl⟩, ⟨_, rfl, rfl⟩, ⟨_, rfl, fvj (by omega)⟩, trivial⟩ ⟨_, rfl, rfl⟩ rfl rfl rfl rfl)
      | rdy h ho hwk hn =>
        obtain ⟨c1, tk, hk, hi1, hi2⟩ := h.kf
        obtain ⟨d1, td, ip, hS, hf, hok2, hd1, hd2, hd3, _⟩ := settle_law h hNP
        subst hk
        refine c_run' tt_ok ctTc2_ok k_l32_TimerChooses [100098, 100110, 100129, 100159, 100164] 90 (by kernel_rfl) (by kernel_rfl) ?_
        refine ⟨fun _ => ?_, fun h => absurd (show (bif decide ((n : Int) < 64) then !false else false) = false from h) (by rw [decide_eq_true (show (n : Int) < 64 by omega)]; decide)⟩
        refine ⟨.t (.s (.int .i32 early)), fun β => told_jl hwe.symm, rfl, ?_⟩
        refine ⟨.t (.s (.bool false)), fun β => told_bl (by cases (bif (n : Int) == early then decide ((n : Int) < 60) else false) <;> rfl), rfl, ?_⟩
        refine ⟨fun h => absurd h (by decide), fun _ => ?_⟩
        refine ⟨.t (.s (.bool true)), fun β => told_tr (rfl), rfl, ?_⟩
        refine ⟨fun _ => ?_, fun h => absurd h (by decide)⟩
        refine ⟨(m, kC (IntKind.i32.wrap (clock + (n : Int))) d1 td NP ip 0 0 0, 0), ⟨rfl, rfl, rfl, rfl, hok2, hS⟩, ?_⟩
        refine ⟨fun h => absurd (show ((0 : Int) != 0) = true from h) (by decide), fun _ => ?_⟩
        refine ⟨fun h => absurd (show (!true) = true from h) (by decide), fun _ => ?_⟩
        refine ⟨.t (.s (.bool false)), fun β => told_bl (by rw [hwk]; simp), rfl, ?_⟩
        refine ⟨.t (.s (.bool false)), fun β => told_bl (rfl), rfl, ?_⟩
        refine ⟨fun h => absurd h (by decide), fun _ => ?_⟩
        refine ⟨((IntKind.i32.wrap (clock + (n : Int)), d1, td, NP, ip, 0, 0, 0), G, m), ⟨rfl, rfl, rfl, rfl, rfl, rfl, rfl, ⟨⟨I32_wrap _, hd1, hd2, hNP, hd3⟩, ⟨hI0, hI0, hI0⟩, hG, hGl, by rw [hwk]; omega, by rw [hwk]; exact ho⟩⟩, ?_⟩
        intro mf _
        refine ⟨fun _ => ?_, fun h => absurd h (by decide)⟩
        exact fin_k tt_ok (rs := rs_l32_TimerChooses) rfl rfl hK [0] rfl rfl rfl rfl rfl rfl
end Go.Proofs

namespace Go.Proofs
open Go Go.Sx
theorem gd_open (q : List Value) (h : KOK [.bool, .int .u8] q) : ∃ e, Gd.good e ∧ q = Gd.vs e := by
  match q, h with
  | [x, y], ⟨⟨a, h1⟩, ⟨b, h2, h3⟩, _⟩ =>
    subst h1; subst h2
    exact ⟨⟨a, b⟩, u8_fit h3, rfl⟩
end Go.Proofs
