/- cpu: others, Mine (printed by gen28k.py). -/
import Derived.Test.YtgmjidajikhimaaGreatWalkC

namespace Go.Proofs
open Go Go.Sx
set_option maxRecDepth 10000
def othM : List (IntKind × Int × TV) := [(.i32, 0, .clo (.func 70) [] []), (.i32, 50, .clo (.func 71) [] []), (.i32, 52, .clo (.func 72) [] []), (.i32, 63, .clo (.func 73) [] []), (.i32, 66, .clo (.func 74) [] []), (.i32, 27, .clo (.func 75) [] []), (.i32, 22, .clo (.func 76) [] []), (.i32, 56, .clo (.func 77) [] []), (.i32, 55, .clo (.func 78) [] []), (.i32, 79, .clo (.func 79) [] []), (.i32, 49, .clo (.func 80) [] []), (.i32, 26, .clo (.func 81) [] []), (.i32, 54, .clo (.func 82) [] []), (.i32, 53, .clo (.func 83) [] []), (.i32, 25, .clo (.func 84) [] []), (.i32, 29, .clo (.func 85) [] []), (.i32, 76, .clo (.func 86) [] []), (.i32, 1, .clo (.func 87) [] []), (.i32, 59, .clo (.func 88) [] []), (.i32, 74, .clo (.func 89) [] []), (.i32, 6, .clo (.func 90) [] []), (.i32, 60, .clo (.func 91) [] []), (.i32, 32, .clo (.func 92) [] []), (.i32, 33, .clo (.func 93) [] []), (.i32, 16, .clo (.func 94) [] []), (.i32, 41, .clo (.func 95) [] []), (.i32, 87, .clo (.func 96) [] []), (.i32, 88, .clo (.func 97) [] []), (.i32, 89, .clo (.func 98) [] [])]
theorem others_c : Con Tryz.prog f_cpu_others [] [] (.ret (.t (.s (.mp 0))) [.mp othM]) := by
  intro K hK
  refine enter fn_cpu_others rfl nt_cpu_others rfl rfl (fun φ w0 β0 F => ?_)
  refine c_run tt_ok (ct := []) trivial k_cpu_others [] 60 (by kernel_rfl) ?_
  refine ⟨rfl, rfl, rfl, rfl, rfl, rfl, rfl, rfl, rfl, rfl, rfl, rfl, rfl, rfl, rfl, rfl, rfl, rfl, rfl, rfl, rfl, rfl, rfl, rfl, rfl, rfl, rfl, rfl, rfl, ?_⟩
  exact fin_k tt_ok (rs := rs_cpu_others) rfl rfl hK [0] rfl rfl rfl rfl rfl rfl
noncomputable abbrev eOthers : Ent := .st (conS (P := Tryz.prog) (f := f_cpu_others) fun cargs σ0 => match cargs, σ0 with
  | [], [] => some ⟨.ret (.t (.s (.mp 0))) [.mp othM], fun K h => others_c K h⟩
  | _, _ => none)
theorem lookM_none {o : Int} (h : isOth o = false) : lookE othM o = none := by
  unfold isOth at h
  simp only [Bool.or_eq_false_iff] at h
  obtain ⟨⟨⟨⟨⟨⟨⟨⟨⟨⟨⟨⟨⟨⟨⟨⟨⟨⟨⟨⟨⟨⟨⟨⟨⟨⟨⟨⟨h0, h1⟩, h2⟩, h3⟩, h4⟩, h5⟩, h6⟩, h7⟩, h8⟩, h9⟩, h10⟩, h11⟩, h12⟩, h13⟩, h14⟩, h15⟩, h16⟩, h17⟩, h18⟩, h19⟩, h20⟩, h21⟩, h22⟩, h23⟩, h24⟩, h25⟩, h26⟩, h27⟩, h28⟩ := h
  simp only [othM, lookE, h0, h1, h2, h3, h4, h5, h6, h7, h8, h9, h10, h11, h12, h13, h14, h15, h16, h17, h18, h19, h20, h21, h22, h23, h24, h25, h26, h27, h28]
noncomputable abbrev ctMn : CT := [(f_cpu_binary, eBinary), (f_cpu_others, eOthers)]
theorem ctMn_ok : CTok Tryz.prog ctMn := ⟨con_ok cal_cpu_binary _, con_ok cal_cpu_others _, trivial⟩

theorem lookM_some {o : Int} (h : isOth o = true) : ∃ g, lookE othM o = some (.clo (.func g) [] []) := by
  rcases oth_cases h with rfl | rfl | rfl | rfl | rfl | rfl | rfl | rfl | rfl | rfl | rfl | rfl | rfl | rfl | rfl | rfl | rfl | rfl | rfl | rfl | rfl | rfl | rfl | rfl | rfl | rfl | rfl | rfl | rfl <;> exact ⟨_, rfl⟩
theorem binF_some {o : Int} (h : isBin o = true) : ∃ g c, binF o = some (g, c) := by
  rcases bin_cases h with rfl | rfl | rfl | rfl | rfl | rfl | rfl | rfl | rfl | rfl | rfl | rfl | rfl | rfl | rfl | rfl | rfl | rfl | rfl | rfl <;> exact ⟨_, _, rfl⟩

set_option maxHeartbeats 8000000 in
theorem Mine_c (fn o : Int) : Con Tryz.prog f_cpu_Mine [.agg [.int .u8 fn, .int .i32 o]] [] (.ret (.t (.s (.bool (mineB fn o)))) []) := by
  intro K hK
  refine enter fn_cpu_Mine rfl nt_cpu_Mine rfl rfl (fun φ w0 β0 F => ?_)
  refine c_run tt_ok ctMn_ok k_cpu_Mine [] 60 (by kernel_rfl) ?_
  refine ⟨fun h => ?_, fun h => ?_⟩
  · rw [show mineB fn o = (bif (bif decide (fn < 15) then fn != 2 else false) then fn != 6 else false) by unfold mineB; rw [show (fn != 15) = true from h]; rfl] at hK
    exact fin_k tt_ok (rs := rs_cpu_Mine) rfl rfl hK [] rfl rfl rfl rfl rfl rfl
  · rw [show mineB fn o = (isBin o || isOth o) by unfold mineB; rw [show (fn != 15) = false from h]; rfl] at hK
    clear h
    refine c_ways tt_ok ctMn_ok k_cpu_Mine rfl rfl ?_
    cases hB : isBin o with
    | false =>
      rw [hB, Bool.false_or] at hK
      cases hO : isOth o with
      | false =>
        rw [hO] at hK
        repeat' (first | exact trivial | exact (rfl : true = true) | (refine Exists.intro none ?_; refine And.intro (binF_none hB) ?_) | (refine Exists.intro none ?_; refine And.intro (lookM_none hO) ?_) | (refine And.intro ?_ ?_) | (intro h; exfalso; simp at h; done) | (refine fun _ => ?_))
        all_goals
          refine e_run tt_ok ctMn_ok k_cpu_Mine [] 60 (by kernel_rfl) ?_
          exact fin_k tt_ok (rs := rs_cpu_Mine) rfl rfl hK [] rfl rfl rfl rfl rfl rfl
      | true =>
        rw [hO] at hK
        obtain ⟨g, hg⟩ := lookM_some hO
        repeat' (first | exact trivial | exact (rfl : true = true) | (refine Exists.intro none ?_; refine And.intro (binF_none hB) ?_) | (refine Exists.intro (some (.clo (.func g) [] [])) ?_; refine And.intro hg ?_) | (refine And.intro ?_ ?_) | (intro h; exfalso; simp at h; done) | (refine fun _ => ?_))
        all_goals
          refine e_run tt_ok ctMn_ok k_cpu_Mine [] 60 (by kernel_rfl) ?_
          exact fin_k tt_ok (rs := rs_cpu_Mine) rfl rfl hK [] rfl rfl rfl rfl rfl rfl
    | true =>
      rw [hB, Bool.true_or] at hK
      obtain ⟨g, c, hg⟩ := binF_some hB
      cases c with
      | none =>
        repeat' (first | exact trivial | exact (rfl : true = true) | (refine Exists.intro (some (g, none)) ?_; refine And.intro hg ?_) | (refine And.intro ?_ ?_) | (intro h; exfalso; simp at h; done) | (refine fun _ => ?_))
        all_goals
          refine e_run tt_ok ctMn_ok k_cpu_Mine [] 60 (by kernel_rfl) ?_
          exact fin_k tt_ok (rs := rs_cpu_Mine) rfl rfl hK [] rfl rfl rfl rfl rfl rfl
      | some c =>
        repeat' (first | exact trivial | exact (rfl : true = true) | (refine Exists.intro (some (g, some c)) ?_; refine And.intro hg ?_) | (refine And.intro ?_ ?_) | (intro h; exfalso; simp at h; done) | (refine fun _ => ?_))
        all_goals
          refine e_run tt_ok ctMn_ok k_cpu_Mine [] 60 (by kernel_rfl) ?_
          exact fin_k tt_ok (rs := rs_cpu_Mine) rfl rfl hK [] rfl rfl rfl rfl rfl rfl

end Go.Proofs

namespace Go.Proofs
open Go Go.Sx
set_option maxRecDepth 10000
def spMine : List TV → Option (Prop × FV)
  | [.agg [.int .u8 fn, .int .i32 o]] => some (True, .t (.s (.bool (mineB fn o))))
  | _ => none
theorem ceMine : CEok Tryz.prog f_cpu_Mine spMine := ⟨cal_cpu_Mine, fun args p v h hp => by
  unfold spMine at h; split at h
  · cases h; exact (Mine_c _ _).pure
  · cases h⟩
def binV (o b a : Int) : Int × Bool := bif o == 5 then (Wd (b + a), wdO (b + a)) else bif o == 12 then (Wd (b - a), wdO (b - a)) else bif o == 83 then (Wd (b * a), wdO (b * a)) else bif o == 44 then ((bif (bif a == 0 then true else bif b == -2147483648 then a == -1 else false) then 0 else b.tdiv a), (bif a == 0 then true else bif b == -2147483648 then a == -1 else false)) else bif o == 31 then ((bif a == 0 then 0 else b.tmod a), (a == 0)) else bif o == 58 then ((bif decide (Uw b < Uw a) then b else Wd (b - 2 * a)), false) else bif o == 86 then (b, (bif decide (b ≥ a) then true else decide (b < Wd (-a)))) else bif o == 19 then (b, decide (Uw b ≥ Uw a)) else bif o == 77 then (b, (bif b == 0 then true else decide (Uw b > Uw a))) else bif o == 82 then (Wd (b + a), false) else bif o == 4 then (Wd (b - a), false) else bif o == 8 then (Wd (b * a), false) else bif o == 65 then (shlS b a, false) else bif o == 64 then (Wd (Uw b / 2 ^ min (Uw a).toNat 32), false) else bif o == 70 then (bits .and .i32 b a, false) else bif o == 75 then (bits .or .i32 b a, false) else bif o == 51 then (bits .xor .i32 b a, false) else bif o == 9 then (trI (decide (b > a)), false) else bif o == 2 then (IntKind.i32.wrap (a + b), false) else bif o == 10 then (IntKind.i32.wrap (a + IntKind.i32.wrap (4 * b)), false) else  (0, false)
def binK (o : Int) (k : Core) : Core := ({ k with a := (binV o k.b k.a).1, b := k.c }).check (binV o k.b k.a).2
def othX (o : Int) (x : Mach) : Mach := bif o == 0 then Mach.mk x.k.rev x.e x.m else bif o == 50 then Mach.mk x.k.not x.e x.m else bif o == 52 then Mach.mk x.k.o_bcnt x.e x.m else bif o == 63 then Mach.mk x.k.o_wcnt x.e x.m else bif o == 66 then Mach.mk x.k.o_mint x.e x.m else bif o == 27 then Mach.mk x.k.ldpi x.e x.m else bif o == 22 then Mach.mk x.k.o_ladd x.e x.m else bif o == 56 then Mach.mk x.k.o_lsub x.e x.m else bif o == 55 then Mach.mk x.k.o_lsum x.e x.m else bif o == 79 then Mach.mk x.k.o_ldiff x.e x.m else bif o == 49 then Mach.mk x.k.o_lmul x.e x.m else bif o == 26 then Mach.mk x.k.o_ldiv x.e x.m else bif o == 54 then Mach.mk x.k.o_lshl x.e x.m else bif o == 53 then Mach.mk x.k.o_lshr x.e x.m else bif o == 25 then Mach.mk x.k.o_norm x.e x.m else bif o == 29 then Mach.mk x.k.o_xdble x.e x.m else bif o == 76 then Mach.mk x.k.o_csngl x.e x.m else bif o == 1 then Mach.lb x else bif o == 59 then Mach.sb x else bif o == 74 then Mach.move x else bif o == 6 then Mach.mk x.k.gcall x.e x.m else bif o == 60 then Mach.mk x.k.gajw x.e x.m else bif o == 32 then Mach.ret x else bif o == 33 then Mach.lend x else bif o == 16 then Mach.mk x.k.seterr x.e x.m else bif o == 41 then Mach.mk x.k.o_testerr x.e x.m else bif o == 87 then Mach.mk x.k.clrh x.e x.m else bif o == 88 then Mach.mk x.k.seth x.e x.m else bif o == 89 then Mach.mk x.k.o_testhalterr x.e x.m else  x
def opX (x : Mach) (fn o : Int) : Mach := bif fn != 15 then x.fn fn o else bif isBin o then ⟨binK o x.k, x.e, x.m⟩ else othX o x
def finR (x : Mach) : Core × Int × Ram := (kSel (x.e != 0) .zero x.k, bif x.e != 0 then 4 else 0, x.m)
def exP (k : Core) (m : Ram) (fn o : Int) : Core × Int × Ram :=
  bif k.pri.fdiv 2 != 0 then (.zero, 2, m) else bif !mineB fn o then (.zero, 280, m) else bif !k.busy then (.zero, 8, m) else finR (opX ⟨k, 0, m⟩ fn o)
noncomputable abbrev eSword_Xword : Ent := .st (conS (P := Tryz.prog) (f := f_word_Xword) fun cargs σ0 => match cargs, σ0 with
  | [.s (.int .i32 a), .s (.int .i32 b)], [] => some ⟨.ret (.t (.s (.int .i32 (bif decide (Uw a < Uw b) then a else Wd (a - 2 * b))))) [], fun K h => wXword_c a b K h⟩
  | _, _ => none)
noncomputable abbrev eSword_Sum : Ent := .st (conS (P := Tryz.prog) (f := f_word_Sum) fun cargs σ0 => match cargs, σ0 with
  | [.s (.int .i32 a), .s (.int .i32 b)], [] => some ⟨.ret (.t (.s (.int .i32 (Wd (a + b))))) [], fun K h => wSum_c a b K h⟩
  | _, _ => none)
noncomputable abbrev eSword_Diff : Ent := .st (conS (P := Tryz.prog) (f := f_word_Diff) fun cargs σ0 => match cargs, σ0 with
  | [.s (.int .i32 a), .s (.int .i32 b)], [] => some ⟨.ret (.t (.s (.int .i32 (Wd (a - b))))) [], fun K h => wDiff_c a b K h⟩
  | _, _ => none)
noncomputable abbrev eSword_Prod : Ent := .st (conS (P := Tryz.prog) (f := f_word_Prod) fun cargs σ0 => match cargs, σ0 with
  | [.s (.int .i32 a), .s (.int .i32 b)], [] => some ⟨.ret (.t (.s (.int .i32 (Wd (a * b))))) [], fun K h => wProd_c a b K h⟩
  | _, _ => none)
noncomputable abbrev eSword_Shl : Ent := .st (conS (P := Tryz.prog) (f := f_word_Shl) fun cargs σ0 => match cargs, σ0 with
  | [.s (.int .i32 a), .s (.int .i32 b)], [] => some ⟨.ret (.t (.s (.int .i32 (shlS a b)))) [], fun K h => wShl_c a b K h⟩
  | _, _ => none)
noncomputable abbrev eSword_Shr : Ent := .st (conS (P := Tryz.prog) (f := f_word_Shr) fun cargs σ0 => match cargs, σ0 with
  | [.s (.int .i32 a), .s (.int .i32 b)], [] => some ⟨.ret (.t (.s (.int .i32 (Wd (Uw a / 2 ^ min (Uw b).toNat 32))))) [], fun K h => wShr_c a b K h⟩
  | _, _ => none)
noncomputable abbrev ctB : CT := [(f_cpu_truth, .pure spTruth), (f_mem_Bsub, in_mem_Bsub [(f_word_Sum, .pure spwSum)]), (f_mem_Wsub, in_mem_Wsub [])]
theorem ctB_ok : CTok Tryz.prog ctB := ⟨ceTruth, in_mem_Bsub_ok (ct := [(f_word_Sum, .pure spwSum)]) ⟨cewSum, trivial⟩, in_mem_Wsub_ok (ct := []) trivial, trivial⟩
noncomputable abbrev ctWp : CT := [(f_word_Xword, eSword_Xword), (f_word_Sum, eSword_Sum), (f_word_Diff, eSword_Diff), (f_word_Prod, eSword_Prod), (f_word_Shl, eSword_Shl), (f_word_Shr, eSword_Shr), (f_cpu_binary_1, in_cpu_binary_1 ctB), (f_cpu_binary_2, in_cpu_binary_2 ctB), (f_cpu_binary_3, in_cpu_binary_3 ctB), (f_cpu_binary_4, in_cpu_binary_4 ctB), (f_cpu_binary_5, in_cpu_binary_5 ctB), (f_cpu_binary_6, in_cpu_binary_6 ctB)]
theorem ctWp_ok : CTok Tryz.prog ctWp := ⟨con_ok cal_word_Xword _, con_ok cal_word_Sum _, con_ok cal_word_Diff _, con_ok cal_word_Prod _, con_ok cal_word_Shl _, con_ok cal_word_Shr _, in_cpu_binary_1_ok ctB_ok, in_cpu_binary_2_ok ctB_ok, in_cpu_binary_3_ok ctB_ok, in_cpu_binary_4_ok ctB_ok, in_cpu_binary_5_ok ctB_ok, in_cpu_binary_6_ok ctB_ok, trivial⟩
noncomputable abbrev eS2word_Add : Ent := .st (conS (P := Tryz.prog) (f := f_word_Add) fun cargs σ0 => match cargs, σ0 with
  | [.s (.int .i32 a), .s (.int .i32 b)], [] => some ⟨.ask (I32 a ∧ I32 b) (.ret (.tup [.s (.int .i32 (Wd (a + b))), .s (.bool (wdO (a + b)))]) []), fun K h => wAdd_c a b h.1.1 h.1.2 K h.2⟩
  | _, _ => none)
noncomputable abbrev eS2word_Sub : Ent := .st (conS (P := Tryz.prog) (f := f_word_Sub) fun cargs σ0 => match cargs, σ0 with
  | [.s (.int .i32 a), .s (.int .i32 b)], [] => some ⟨.ask (I32 a ∧ I32 b) (.ret (.tup [.s (.int .i32 (Wd (a - b))), .s (.bool (wdO (a - b)))]) []), fun K h => wSub_c a b h.1.1 h.1.2 K h.2⟩
  | _, _ => none)
noncomputable abbrev eS2word_Mul : Ent := .st (conS (P := Tryz.prog) (f := f_word_Mul) fun cargs σ0 => match cargs, σ0 with
  | [.s (.int .i32 a), .s (.int .i32 b)], [] => some ⟨.ask (I32 a ∧ I32 b) (.ret (.tup [.s (.int .i32 (Wd (a * b))), .s (.bool (wdO (a * b)))]) []), fun K h => wMul_c a b h.1.1 h.1.2 K h.2⟩
  | _, _ => none)
noncomputable abbrev eS2word_Div : Ent := .st (conS (P := Tryz.prog) (f := f_word_Div) fun cargs σ0 => match cargs, σ0 with
  | [.s (.int .i32 a), .s (.int .i32 b)], [] => some ⟨.ask (I32 a ∧ I32 b) (.ret (.tup [.s (.int .i32 ((bif (bif b == 0 then true else bif a == -2147483648 then b == -1 else false) then 0 else a.tdiv b))), .s (.bool ((bif b == 0 then true else bif a == -2147483648 then b == -1 else false)))]) []), fun K h => wDiv_c a b h.1.1 h.1.2 K h.2⟩
  | _, _ => none)
noncomputable abbrev eS2word_Rem : Ent := .st (conS (P := Tryz.prog) (f := f_word_Rem) fun cargs σ0 => match cargs, σ0 with
  | [.s (.int .i32 a), .s (.int .i32 b)], [] => some ⟨.ask (I32 a ∧ I32 b) (.ret (.tup [.s (.int .i32 ((bif b == 0 then 0 else a.tmod b))), .s (.bool ((b == 0)))]) []), fun K h => wRem_c a b h.1.1 h.1.2 K h.2⟩
  | _, _ => none)
noncomputable abbrev eS2word_Cword : Ent := .st (conS (P := Tryz.prog) (f := f_word_Cword) fun cargs σ0 => match cargs, σ0 with
  | [.s (.int .i32 a), .s (.int .i32 b)], [] => some ⟨.ret (.tup [.s (.int .i32 (a)), .s (.bool ((bif decide (a ≥ b) then true else decide (a < Wd (-b)))))]) [], fun K h => wCword_c a b K h⟩
  | _, _ => none)
noncomputable abbrev eS2word_Csub0 : Ent := .st (conS (P := Tryz.prog) (f := f_word_Csub0) fun cargs σ0 => match cargs, σ0 with
  | [.s (.int .i32 a), .s (.int .i32 b)], [] => some ⟨.ret (.tup [.s (.int .i32 (a)), .s (.bool ((decide (Uw a ≥ Uw b))))]) [], fun K h => wCsub0_c a b K h⟩
  | _, _ => none)
noncomputable abbrev eS2word_Ccnt1 : Ent := .st (conS (P := Tryz.prog) (f := f_word_Ccnt1) fun cargs σ0 => match cargs, σ0 with
  | [.s (.int .i32 a), .s (.int .i32 b)], [] => some ⟨.ret (.tup [.s (.int .i32 (a)), .s (.bool ((bif a == 0 then true else decide (Uw a > Uw b))))]) [], fun K h => wCcnt1_c a b K h⟩
  | _, _ => none)
noncomputable abbrev ctEx : CT := [(f_mem_Mem_Size, eSizeT), (f_cpu_Mine, .pure spMine), (f_cpu_binary, eBinary), (f_cpu_others, eOthers), (f_cpu_machine_function, eFunction), (f_cpu_machine_check, eMcheck), (f_cpu_plain_1, in_cpu_plain_1 ctWp), (f_word_Add, eS2word_Add), (f_word_Sub, eS2word_Sub), (f_word_Mul, eS2word_Mul), (f_word_Div, eS2word_Div), (f_word_Rem, eS2word_Rem), (f_word_Cword, eS2word_Cword), (f_word_Csub0, eS2word_Csub0), (f_word_Ccnt1, eS2word_Ccnt1), (f_cpu_machine_rev, eMrev), (f_cpu_machine_not, eMnot), (f_cpu_machine_bcnt, eObcnt), (f_cpu_machine_wcnt, eOwcnt), (f_cpu_machine_mint, eOmint), (f_cpu_machine_ldpi, eMldpi), (f_cpu_machine_ladd, eOladd), (f_cpu_machine_lsub, eOlsub), (f_cpu_machine_lsum, eOlsum), (f_cpu_machine_ldiff, eOldiff), (f_cpu_machine_lmul, eOlmul), (f_cpu_machine_ldiv, eOldiv), (f_cpu_machine_lshl, eOlshl), (f_cpu_machine_lshr, eOlshr), (f_cpu_machine_norm, eOnorm), (f_cpu_machine_xdble, eOxdble), (f_cpu_machine_csngl, eOcsngl), (f_cpu_machine_lb, eOlb), (f_cpu_machine_sb, eOsb), (f_cpu_machine_move, eOmove), (f_cpu_machine_gcall, eMgcall), (f_cpu_machine_gajw, eMgajw), (f_cpu_machine_ret, eOret), (f_cpu_machine_lend, eOlend), (f_cpu_machine_seterr, eMseterr), (f_cpu_machine_testerr, eOtesterr), (f_cpu_machine_clrhalterr, eMclrh), (f_cpu_machine_sethalterr, eMseth), (f_cpu_machine_testhalterr, eOtesthalterr)]
theorem ctEx_ok : CTok Tryz.prog ctEx := ⟨con_ok cal_mem_Mem_Size _, ceMine, con_ok cal_cpu_binary _, con_ok cal_cpu_others _, con_ok cal_cpu_machine_function _, con_ok cal_cpu_machine_check _, in_cpu_plain_1_ok ctWp_ok, con_ok cal_word_Add _, con_ok cal_word_Sub _, con_ok cal_word_Mul _, con_ok cal_word_Div _, con_ok cal_word_Rem _, con_ok cal_word_Cword _, con_ok cal_word_Csub0 _, con_ok cal_word_Ccnt1 _, con_ok cal_cpu_machine_rev _, con_ok cal_cpu_machine_not _, con_ok cal_cpu_machine_bcnt _, con_ok cal_cpu_machine_wcnt _, con_ok cal_cpu_machine_mint _, con_ok cal_cpu_machine_ldpi _, con_ok cal_cpu_machine_ladd _, con_ok cal_cpu_machine_lsub _, con_ok cal_cpu_machine_lsum _, con_ok cal_cpu_machine_ldiff _, con_ok cal_cpu_machine_lmul _, con_ok cal_cpu_machine_ldiv _, con_ok cal_cpu_machine_lshl _, con_ok cal_cpu_machine_lshr _, con_ok cal_cpu_machine_norm _, con_ok cal_cpu_machine_xdble _, con_ok cal_cpu_machine_csngl _, con_ok cal_cpu_machine_lb _, con_ok cal_cpu_machine_sb _, con_ok cal_cpu_machine_move _, con_ok cal_cpu_machine_gcall _, con_ok cal_cpu_machine_gajw _, con_ok cal_cpu_machine_ret _, con_ok cal_cpu_machine_lend _, con_ok cal_cpu_machine_seterr _, con_ok cal_cpu_machine_testerr _, con_ok cal_cpu_machine_clrhalterr _, con_ok cal_cpu_machine_sethalterr _, con_ok cal_cpu_machine_testhalterr _, trivial⟩

set_option maxHeartbeats 16000000 in
theorem Exec_c (k : Core) (m : Ram) (fn o : Int) (hok : k.ok) (ho : I32 o) : Con Tryz.prog f_cpu_Exec [.agg k.sv, .s (.loc 0 0), .agg [.int .u8 fn, .int .i32 o]] [mBox m.l.length, mOwn m.l]
    (.ret (.tup [.agg (exP k m fn o).1.sv, .s (.int .i64 (exP k m fn o).2.1)]) [mBox (exP k m fn o).2.2.l.length, mOwn (exP k m fn o).2.2.l]) := by
  intro K hK
  refine enter fn_cpu_Exec rfl nt_cpu_Exec rfl rfl (fun φ w0 β0 F => ?_)
  refine c_run tt_ok ctEx_ok k_cpu_Exec [] 90 (by kernel_rfl) ?_
  refine ⟨fun h => ?_, fun _ => ⟨fun h => ?_, fun h => ⟨trivial, fun h2 => ?_, fun h2 => ⟨fun h3 => ?_, fun h3 => ?_⟩⟩⟩⟩
  · exfalso; have h0 := m.lo; have := of_decide_eq_true h; omega
  · replace h : (k.pri.fdiv 2 != 0) = true := h
    rw [show exP k m fn o = (.zero, 2, m) by simp only [exP, h, cond_true]] at hK
    exact fin_k tt_ok (rs := rs_cpu_Exec) rfl rfl hK [0, 1] rfl rfl rfl rfl rfl rfl
  · replace h : (k.pri.fdiv 2 != 0) = false := h
    rw [show exP k m fn o = (.zero, 280, m) by simp only [exP, h, h2, cond_true, cond_false]] at hK
    exact fin_k tt_ok (rs := rs_cpu_Exec) rfl rfl hK [0, 1] rfl rfl rfl rfl rfl rfl
  · replace h : (k.pri.fdiv 2 != 0) = false := h
    rw [show exP k m fn o = (.zero, 8, m) by simp only [exP, h, h2, show (!k.busy) = true from h3, cond_true, cond_false]] at hK
    exact fin_k tt_ok (rs := rs_cpu_Exec) rfl rfl hK [0, 1] rfl rfl rfl rfl rfl rfl
  · replace h : (k.pri.fdiv 2 != 0) = false := h
    rw [show exP k m fn o = finR (opX ⟨k, 0, m⟩ fn o) by simp only [exP, h, h2, show (!k.busy) = false from h3, cond_false]] at hK
    refine ⟨fun g => ?_, fun g => ?_⟩
    · rw [show opX ⟨k, 0, m⟩ fn o = Mach.fn ⟨k, 0, m⟩ fn o by simp only [opX, show (fn != 15) = true from g, cond_true]] at hK
      obtain ⟨y, hy⟩ : ∃ y, Mach.fn ⟨k, 0, m⟩ fn o = y := ⟨_, rfl⟩
      rw [hy] at hK
      obtain ⟨k', e', m'⟩ := y
      refine ⟨(m, ⟨k', e', m'⟩), ⟨rfl, rfl, rfl, rfl, ⟨hok, ho⟩, hy⟩, fun he => ?_, fun he => ?_⟩
      · rw [show finR ⟨k', e', m'⟩ = (.zero, 4, m') by simp only [finR, show (e' != 0) = true from he, cond_true, kSel_t]] at hK
        exact fin_k tt_ok (rs := rs_cpu_Exec) rfl rfl hK [0, 1] rfl rfl rfl rfl rfl rfl
      · rw [show finR ⟨k', e', m'⟩ = (k', 0, m') by simp only [finR, show (e' != 0) = false from he, cond_false, kSel_f]] at hK
        exact fin_k tt_ok (rs := rs_cpu_Exec) rfl rfl hK [0, 1] rfl rfl rfl rfl rfl rfl
    · rw [show mineB fn o = (isBin o || isOth o) by unfold mineB; rw [show (fn != 15) = false from g]; rfl] at h2
      rw [show opX ⟨k, 0, m⟩ fn o = (bif isBin o then ⟨binK o k, 0, m⟩ else othX o ⟨k, 0, m⟩) by simp only [opX, show (fn != 15) = false from g, cond_false]] at hK
      cases hB : isBin o with
      | true =>
        rw [hB, cond_true] at hK
        rcases bin_cases hB with rfl | rfl | rfl | rfl | rfl | rfl | rfl | rfl | rfl | rfl | rfl | rfl | rfl | rfl | rfl | rfl | rfl | rfl | rfl | rfl
        · refine ⟨some (43, none), rfl, fun _ => ?_, fun h' => absurd h' (by decide)⟩
          refine ⟨⟨hok.b, hok.a⟩, ?_⟩
          refine c_ways tt_ok ctEx_ok k_cpu_Exec rfl rfl ?_
          repeat' (first | exact trivial | (refine And.intro ?_ ?_) | (refine fun _ => ?_))
          all_goals
            refine e_run tt_ok ctEx_ok k_cpu_Exec [] 60 (by kernel_rfl) ?_
            refine ⟨m, ⟨rfl, rfl, rfl, rfl⟩, fun he => absurd he (by decide), fun _ => ?_⟩
            rw [show finR ⟨binK 5 k, 0, m⟩ = (binK 5 k, 0, m) from rfl] at hK
            exact fin_k tt_ok (rs := rs_cpu_Exec) rfl rfl hK [0, 1] rfl rfl rfl rfl rfl rfl
        · refine ⟨some (48, none), rfl, fun _ => ?_, fun h' => absurd h' (by decide)⟩
          refine ⟨⟨hok.b, hok.a⟩, ?_⟩
          refine c_ways tt_ok ctEx_ok k_cpu_Exec rfl rfl ?_
          repeat' (first | exact trivial | (refine And.intro ?_ ?_) | (refine fun _ => ?_))
          all_goals
            refine e_run tt_ok ctEx_ok k_cpu_Exec [] 60 (by kernel_rfl) ?_
            refine ⟨m, ⟨rfl, rfl, rfl, rfl⟩, fun he => absurd he (by decide), fun _ => ?_⟩
            rw [show finR ⟨binK 12 k, 0, m⟩ = (binK 12 k, 0, m) from rfl] at hK
            exact fin_k tt_ok (rs := rs_cpu_Exec) rfl rfl hK [0, 1] rfl rfl rfl rfl rfl rfl
        · refine ⟨some (49, none), rfl, fun _ => ?_, fun h' => absurd h' (by decide)⟩
          refine ⟨⟨hok.b, hok.a⟩, ?_⟩
          refine c_ways tt_ok ctEx_ok k_cpu_Exec rfl rfl ?_
          repeat' (first | exact trivial | (refine And.intro ?_ ?_) | (refine fun _ => ?_))
          all_goals
            refine e_run tt_ok ctEx_ok k_cpu_Exec [] 60 (by kernel_rfl) ?_
            refine ⟨m, ⟨rfl, rfl, rfl, rfl⟩, fun he => absurd he (by decide), fun _ => ?_⟩
            rw [show finR ⟨binK 83 k, 0, m⟩ = (binK 83 k, 0, m) from rfl] at hK
            exact fin_k tt_ok (rs := rs_cpu_Exec) rfl rfl hK [0, 1] rfl rfl rfl rfl rfl rfl
        · refine ⟨some (50, none), rfl, fun _ => ?_, fun h' => absurd h' (by decide)⟩
          refine ⟨⟨hok.b, hok.a⟩, ?_⟩
          refine c_ways tt_ok ctEx_ok k_cpu_Exec rfl rfl ?_
          repeat' (first | exact trivial | (refine And.intro ?_ ?_) | (refine fun _ => ?_))
          all_goals
            refine e_run tt_ok ctEx_ok k_cpu_Exec [] 60 (by kernel_rfl) ?_
            refine ⟨m, ⟨rfl, rfl, rfl, rfl⟩, fun he => absurd he (by decide), fun _ => ?_⟩
            rw [show finR ⟨binK 44 k, 0, m⟩ = (binK 44 k, 0, m) from rfl] at hK
            exact fin_k tt_ok (rs := rs_cpu_Exec) rfl rfl hK [0, 1] rfl rfl rfl rfl rfl rfl
        · refine ⟨some (51, none), rfl, fun _ => ?_, fun h' => absurd h' (by decide)⟩
          refine ⟨⟨hok.b, hok.a⟩, ?_⟩
          refine c_ways tt_ok ctEx_ok k_cpu_Exec rfl rfl ?_
          repeat' (first | exact trivial | (refine And.intro ?_ ?_) | (refine fun _ => ?_))
          all_goals
            refine e_run tt_ok ctEx_ok k_cpu_Exec [] 60 (by kernel_rfl) ?_
            refine ⟨m, ⟨rfl, rfl, rfl, rfl⟩, fun he => absurd he (by decide), fun _ => ?_⟩
            rw [show finR ⟨binK 31 k, 0, m⟩ = (binK 31 k, 0, m) from rfl] at hK
            exact fin_k tt_ok (rs := rs_cpu_Exec) rfl rfl hK [0, 1] rfl rfl rfl rfl rfl rfl
        · refine ⟨some (137, some 53), rfl, fun _ => ?_, fun h' => absurd h' (by decide)⟩
          refine c_ways tt_ok ctEx_ok k_cpu_Exec rfl rfl ?_
          repeat' (first | exact trivial | (refine And.intro ?_ ?_) | (refine fun _ => ?_))
          all_goals
            refine e_run tt_ok ctEx_ok k_cpu_Exec [] 60 (by kernel_rfl) ?_
            refine ⟨m, ⟨rfl, rfl, rfl, rfl⟩, fun he => absurd he (by decide), fun _ => ?_⟩
            rw [show finR ⟨binK 58 k, 0, m⟩ = (binK 58 k, 0, m) from rfl] at hK
            exact fin_k tt_ok (rs := rs_cpu_Exec) rfl rfl hK [0, 1] rfl rfl rfl rfl rfl rfl
        · refine ⟨some (54, none), rfl, fun _ => ?_, fun h' => absurd h' (by decide)⟩
          refine c_ways tt_ok ctEx_ok k_cpu_Exec rfl rfl ?_
          repeat' (first | exact trivial | (refine And.intro ?_ ?_) | (refine fun _ => ?_))
          all_goals
            refine e_run tt_ok ctEx_ok k_cpu_Exec [] 60 (by kernel_rfl) ?_
            refine ⟨m, ⟨rfl, rfl, rfl, rfl⟩, fun he => absurd he (by decide), fun _ => ?_⟩
            rw [show finR ⟨binK 86 k, 0, m⟩ = (binK 86 k, 0, m) from rfl] at hK
            exact fin_k tt_ok (rs := rs_cpu_Exec) rfl rfl hK [0, 1] rfl rfl rfl rfl rfl rfl
        · refine ⟨some (55, none), rfl, fun _ => ?_, fun h' => absurd h' (by decide)⟩
          refine c_ways tt_ok ctEx_ok k_cpu_Exec rfl rfl ?_
          repeat' (first | exact trivial | (refine And.intro ?_ ?_) | (refine fun _ => ?_))
          all_goals
            refine e_run tt_ok ctEx_ok k_cpu_Exec [] 60 (by kernel_rfl) ?_
            refine ⟨m, ⟨rfl, rfl, rfl, rfl⟩, fun he => absurd he (by decide), fun _ => ?_⟩
            rw [show finR ⟨binK 19 k, 0, m⟩ = (binK 19 k, 0, m) from rfl] at hK
            exact fin_k tt_ok (rs := rs_cpu_Exec) rfl rfl hK [0, 1] rfl rfl rfl rfl rfl rfl
        · refine ⟨some (56, none), rfl, fun _ => ?_, fun h' => absurd h' (by decide)⟩
          refine c_ways tt_ok ctEx_ok k_cpu_Exec rfl rfl ?_
          repeat' (first | exact trivial | (refine And.intro ?_ ?_) | (refine fun _ => ?_))
          all_goals
            refine e_run tt_ok ctEx_ok k_cpu_Exec [] 60 (by kernel_rfl) ?_
            refine ⟨m, ⟨rfl, rfl, rfl, rfl⟩, fun he => absurd he (by decide), fun _ => ?_⟩
            rw [show finR ⟨binK 77 k, 0, m⟩ = (binK 77 k, 0, m) from rfl] at hK
            exact fin_k tt_ok (rs := rs_cpu_Exec) rfl rfl hK [0, 1] rfl rfl rfl rfl rfl rfl
        · refine ⟨some (137, some 57), rfl, fun _ => ?_, fun h' => absurd h' (by decide)⟩
          refine c_ways tt_ok ctEx_ok k_cpu_Exec rfl rfl ?_
          repeat' (first | exact trivial | (refine And.intro ?_ ?_) | (refine fun _ => ?_))
          all_goals
            refine e_run tt_ok ctEx_ok k_cpu_Exec [] 60 (by kernel_rfl) ?_
            refine ⟨m, ⟨rfl, rfl, rfl, rfl⟩, fun he => absurd he (by decide), fun _ => ?_⟩
            rw [show finR ⟨binK 82 k, 0, m⟩ = (binK 82 k, 0, m) from rfl] at hK
            exact fin_k tt_ok (rs := rs_cpu_Exec) rfl rfl hK [0, 1] rfl rfl rfl rfl rfl rfl
        · refine ⟨some (137, some 58), rfl, fun _ => ?_, fun h' => absurd h' (by decide)⟩
          refine c_ways tt_ok ctEx_ok k_cpu_Exec rfl rfl ?_
          repeat' (first | exact trivial | (refine And.intro ?_ ?_) | (refine fun _ => ?_))
          all_goals
            refine e_run tt_ok ctEx_ok k_cpu_Exec [] 60 (by kernel_rfl) ?_
            refine ⟨m, ⟨rfl, rfl, rfl, rfl⟩, fun he => absurd he (by decide), fun _ => ?_⟩
            rw [show finR ⟨binK 4 k, 0, m⟩ = (binK 4 k, 0, m) from rfl] at hK
            exact fin_k tt_ok (rs := rs_cpu_Exec) rfl rfl hK [0, 1] rfl rfl rfl rfl rfl rfl
        · refine ⟨some (137, some 59), rfl, fun _ => ?_, fun h' => absurd h' (by decide)⟩
          refine c_ways tt_ok ctEx_ok k_cpu_Exec rfl rfl ?_
          repeat' (first | exact trivial | (refine And.intro ?_ ?_) | (refine fun _ => ?_))
          all_goals
            refine e_run tt_ok ctEx_ok k_cpu_Exec [] 60 (by kernel_rfl) ?_
            refine ⟨m, ⟨rfl, rfl, rfl, rfl⟩, fun he => absurd he (by decide), fun _ => ?_⟩
            rw [show finR ⟨binK 8 k, 0, m⟩ = (binK 8 k, 0, m) from rfl] at hK
            exact fin_k tt_ok (rs := rs_cpu_Exec) rfl rfl hK [0, 1] rfl rfl rfl rfl rfl rfl
        · refine ⟨some (137, some 60), rfl, fun _ => ?_, fun h' => absurd h' (by decide)⟩
          refine c_ways tt_ok ctEx_ok k_cpu_Exec rfl rfl ?_
          repeat' (first | exact trivial | (refine And.intro ?_ ?_) | (refine fun _ => ?_))
          all_goals
            refine e_run tt_ok ctEx_ok k_cpu_Exec [] 60 (by kernel_rfl) ?_
            refine ⟨m, ⟨rfl, rfl, rfl, rfl⟩, fun he => absurd he (by decide), fun _ => ?_⟩
            rw [show finR ⟨binK 65 k, 0, m⟩ = (binK 65 k, 0, m) from rfl] at hK
            exact fin_k tt_ok (rs := rs_cpu_Exec) rfl rfl hK [0, 1] rfl rfl rfl rfl rfl rfl
        · refine ⟨some (137, some 61), rfl, fun _ => ?_, fun h' => absurd h' (by decide)⟩
          refine c_ways tt_ok ctEx_ok k_cpu_Exec rfl rfl ?_
          repeat' (first | exact trivial | (refine And.intro ?_ ?_) | (refine fun _ => ?_))
          all_goals
            refine e_run tt_ok ctEx_ok k_cpu_Exec [] 60 (by kernel_rfl) ?_
            refine ⟨m, ⟨rfl, rfl, rfl, rfl⟩, fun he => absurd he (by decide), fun _ => ?_⟩
            rw [show finR ⟨binK 64 k, 0, m⟩ = (binK 64 k, 0, m) from rfl] at hK
            exact fin_k tt_ok (rs := rs_cpu_Exec) rfl rfl hK [0, 1] rfl rfl rfl rfl rfl rfl
        · refine ⟨some (137, some 62), rfl, fun _ => ?_, fun h' => absurd h' (by decide)⟩
          refine c_ways tt_ok ctEx_ok k_cpu_Exec rfl rfl ?_
          repeat' (first | exact trivial | (refine And.intro ?_ ?_) | (refine fun _ => ?_))
          all_goals
            refine e_run tt_ok ctEx_ok k_cpu_Exec [] 60 (by kernel_rfl) ?_
            refine ⟨m, ⟨rfl, rfl, rfl, rfl⟩, fun he => absurd he (by decide), fun _ => ?_⟩
            rw [show finR ⟨binK 70 k, 0, m⟩ = (binK 70 k, 0, m) from rfl] at hK
            exact fin_k tt_ok (rs := rs_cpu_Exec) rfl rfl hK [0, 1] rfl rfl rfl rfl rfl rfl
        · refine ⟨some (137, some 63), rfl, fun _ => ?_, fun h' => absurd h' (by decide)⟩
          refine c_ways tt_ok ctEx_ok k_cpu_Exec rfl rfl ?_
          repeat' (first | exact trivial | (refine And.intro ?_ ?_) | (refine fun _ => ?_))
          all_goals
            refine e_run tt_ok ctEx_ok k_cpu_Exec [] 60 (by kernel_rfl) ?_
            refine ⟨m, ⟨rfl, rfl, rfl, rfl⟩, fun he => absurd he (by decide), fun _ => ?_⟩
            rw [show finR ⟨binK 75 k, 0, m⟩ = (binK 75 k, 0, m) from rfl] at hK
            exact fin_k tt_ok (rs := rs_cpu_Exec) rfl rfl hK [0, 1] rfl rfl rfl rfl rfl rfl
        · refine ⟨some (137, some 64), rfl, fun _ => ?_, fun h' => absurd h' (by decide)⟩
          refine c_ways tt_ok ctEx_ok k_cpu_Exec rfl rfl ?_
          repeat' (first | exact trivial | (refine And.intro ?_ ?_) | (refine fun _ => ?_))
          all_goals
            refine e_run tt_ok ctEx_ok k_cpu_Exec [] 60 (by kernel_rfl) ?_
            refine ⟨m, ⟨rfl, rfl, rfl, rfl⟩, fun he => absurd he (by decide), fun _ => ?_⟩
            rw [show finR ⟨binK 51 k, 0, m⟩ = (binK 51 k, 0, m) from rfl] at hK
            exact fin_k tt_ok (rs := rs_cpu_Exec) rfl rfl hK [0, 1] rfl rfl rfl rfl rfl rfl
        · refine ⟨some (137, some 65), rfl, fun _ => ?_, fun h' => absurd h' (by decide)⟩
          refine ⟨trivial, ?_⟩
          refine c_ways tt_ok ctEx_ok k_cpu_Exec rfl rfl ?_
          repeat' (first | exact trivial | (refine And.intro ?_ ?_) | (refine fun _ => ?_))
          all_goals
            refine e_run tt_ok ctEx_ok k_cpu_Exec [] 60 (by kernel_rfl) ?_
            refine ⟨m, ⟨rfl, rfl, rfl, rfl⟩, fun he => absurd he (by decide), fun _ => ?_⟩
            rw [show finR ⟨binK 9 k, 0, m⟩ = (binK 9 k, 0, m) from rfl] at hK
            exact fin_k tt_ok (rs := rs_cpu_Exec) rfl rfl hK [0, 1] rfl rfl rfl rfl rfl rfl
        · refine ⟨some (137, some 66), rfl, fun _ => ?_, fun h' => absurd h' (by decide)⟩
          refine c_ways tt_ok ctEx_ok k_cpu_Exec rfl rfl ?_
          repeat' (first | exact trivial | (refine And.intro ?_ ?_) | (refine fun _ => ?_))
          all_goals
            refine e_run tt_ok ctEx_ok k_cpu_Exec [] 60 (by kernel_rfl) ?_
            refine ⟨m, ⟨rfl, rfl, rfl, rfl⟩, fun he => absurd he (by decide), fun _ => ?_⟩
            rw [show finR ⟨binK 2 k, 0, m⟩ = (binK 2 k, 0, m) from rfl] at hK
            exact fin_k tt_ok (rs := rs_cpu_Exec) rfl rfl hK [0, 1] rfl rfl rfl rfl rfl rfl
        · refine ⟨some (137, some 68), rfl, fun _ => ?_, fun h' => absurd h' (by decide)⟩
          refine c_ways tt_ok ctEx_ok k_cpu_Exec rfl rfl ?_
          repeat' (first | exact trivial | (refine And.intro ?_ ?_) | (refine fun _ => ?_))
          all_goals
            refine e_run tt_ok ctEx_ok k_cpu_Exec [] 60 (by kernel_rfl) ?_
            refine ⟨m, ⟨rfl, rfl, rfl, rfl⟩, fun he => absurd he (by decide), fun _ => ?_⟩
            rw [show finR ⟨binK 10 k, 0, m⟩ = (binK 10 k, 0, m) from rfl] at hK
            exact fin_k tt_ok (rs := rs_cpu_Exec) rfl rfl hK [0, 1] rfl rfl rfl rfl rfl rfl
      | false =>
        rw [hB, cond_false] at hK
        have hO : isOth o = true := by rw [hB, Bool.false_or] at h2; cases hx : isOth o with | true => rfl | false => rw [hx] at h2; exact absurd h2 (by decide)
        rcases oth_cases hO with rfl | rfl | rfl | rfl | rfl | rfl | rfl | rfl | rfl | rfl | rfl | rfl | rfl | rfl | rfl | rfl | rfl | rfl | rfl | rfl | rfl | rfl | rfl | rfl | rfl | rfl | rfl | rfl | rfl
        · refine ⟨none, rfl, fun h' => absurd h' (by decide), fun _ => ?_⟩
          refine c_ways tt_ok ctEx_ok k_cpu_Exec rfl rfl ?_
          repeat' (first | exact trivial | exact (rfl : true = true) | (refine Exists.intro (some (.clo (.func 70) [] [])) ?_; refine And.intro rfl ?_) | (refine Exists.intro m ?_; refine And.intro ⟨rfl, rfl, rfl, rfl⟩ ?_) | (refine And.intro ?_ ?_) | (refine fun _ => ?_))
          all_goals
            refine e_run tt_ok ctEx_ok k_cpu_Exec [] 60 (by kernel_rfl) ?_
            refine ⟨fun he => absurd he (by decide), fun _ => ?_⟩
            rw [show finR (othX 0 ⟨k, 0, m⟩) = ((Mach.mk k.rev 0 m).k, 0, m) from rfl] at hK
            exact fin_k tt_ok (rs := rs_cpu_Exec) rfl rfl hK [0, 1] rfl rfl rfl rfl rfl rfl
        · refine ⟨none, rfl, fun h' => absurd h' (by decide), fun _ => ?_⟩
          refine c_ways tt_ok ctEx_ok k_cpu_Exec rfl rfl ?_
          repeat' (first | exact trivial | exact (rfl : true = true) | (refine Exists.intro (some (.clo (.func 71) [] [])) ?_; refine And.intro rfl ?_) | (refine Exists.intro m ?_; refine And.intro ⟨rfl, rfl, rfl, rfl⟩ ?_) | (refine And.intro ?_ ?_) | (refine fun _ => ?_))
          all_goals
            refine e_run tt_ok ctEx_ok k_cpu_Exec [] 60 (by kernel_rfl) ?_
            refine ⟨fun he => absurd he (by decide), fun _ => ?_⟩
            rw [show finR (othX 50 ⟨k, 0, m⟩) = ((Mach.mk k.not 0 m).k, 0, m) from rfl] at hK
            exact fin_k tt_ok (rs := rs_cpu_Exec) rfl rfl hK [0, 1] rfl rfl rfl rfl rfl rfl
        · refine ⟨none, rfl, fun h' => absurd h' (by decide), fun _ => ?_⟩
          refine c_ways tt_ok ctEx_ok k_cpu_Exec rfl rfl ?_
          repeat' (first | exact trivial | exact (rfl : true = true) | (refine Exists.intro (some (.clo (.func 72) [] [])) ?_; refine And.intro rfl ?_) | (refine Exists.intro m ?_; refine And.intro ⟨rfl, rfl, rfl, rfl⟩ ?_) | (refine And.intro ?_ ?_) | (refine fun _ => ?_))
          all_goals
            refine e_run tt_ok ctEx_ok k_cpu_Exec [] 60 (by kernel_rfl) ?_
            refine ⟨fun he => absurd he (by decide), fun _ => ?_⟩
            rw [show finR (othX 52 ⟨k, 0, m⟩) = ((Mach.mk k.o_bcnt 0 m).k, 0, m) from rfl] at hK
            exact fin_k tt_ok (rs := rs_cpu_Exec) rfl rfl hK [0, 1] rfl rfl rfl rfl rfl rfl
        · refine ⟨none, rfl, fun h' => absurd h' (by decide), fun _ => ?_⟩
          refine c_ways tt_ok ctEx_ok k_cpu_Exec rfl rfl ?_
          repeat' (first | exact trivial | exact (rfl : true = true) | (refine Exists.intro (some (.clo (.func 73) [] [])) ?_; refine And.intro rfl ?_) | (refine Exists.intro m ?_; refine And.intro ⟨rfl, rfl, rfl, rfl⟩ ?_) | (refine And.intro ?_ ?_) | (refine fun _ => ?_))
          all_goals
            refine e_run tt_ok ctEx_ok k_cpu_Exec [] 60 (by kernel_rfl) ?_
            refine ⟨fun he => absurd he (by decide), fun _ => ?_⟩
            rw [show finR (othX 63 ⟨k, 0, m⟩) = ((Mach.mk k.o_wcnt 0 m).k, 0, m) from rfl] at hK
            exact fin_k tt_ok (rs := rs_cpu_Exec) rfl rfl hK [0, 1] rfl rfl rfl rfl rfl rfl
        · refine ⟨none, rfl, fun h' => absurd h' (by decide), fun _ => ?_⟩
          refine c_ways tt_ok ctEx_ok k_cpu_Exec rfl rfl ?_
          repeat' (first | exact trivial | exact (rfl : true = true) | (refine Exists.intro (some (.clo (.func 74) [] [])) ?_; refine And.intro rfl ?_) | (refine Exists.intro m ?_; refine And.intro ⟨rfl, rfl, rfl, rfl⟩ ?_) | (refine And.intro ?_ ?_) | (refine fun _ => ?_))
          all_goals
            refine e_run tt_ok ctEx_ok k_cpu_Exec [] 60 (by kernel_rfl) ?_
            refine ⟨fun he => absurd he (by decide), fun _ => ?_⟩
            rw [show finR (othX 66 ⟨k, 0, m⟩) = ((Mach.mk k.o_mint 0 m).k, 0, m) from rfl] at hK
            exact fin_k tt_ok (rs := rs_cpu_Exec) rfl rfl hK [0, 1] rfl rfl rfl rfl rfl rfl
        · refine ⟨none, rfl, fun h' => absurd h' (by decide), fun _ => ?_⟩
          refine c_ways tt_ok ctEx_ok k_cpu_Exec rfl rfl ?_
          repeat' (first | exact trivial | exact (rfl : true = true) | (refine Exists.intro (some (.clo (.func 75) [] [])) ?_; refine And.intro rfl ?_) | (refine Exists.intro m ?_; refine And.intro ⟨rfl, rfl, rfl, rfl⟩ ?_) | (refine And.intro ?_ ?_) | (refine fun _ => ?_))
          all_goals
            refine e_run tt_ok ctEx_ok k_cpu_Exec [] 60 (by kernel_rfl) ?_
            refine ⟨fun he => absurd he (by decide), fun _ => ?_⟩
            rw [show finR (othX 27 ⟨k, 0, m⟩) = ((Mach.mk k.ldpi 0 m).k, 0, m) from rfl] at hK
            exact fin_k tt_ok (rs := rs_cpu_Exec) rfl rfl hK [0, 1] rfl rfl rfl rfl rfl rfl
        · refine ⟨none, rfl, fun h' => absurd h' (by decide), fun _ => ?_⟩
          refine c_ways tt_ok ctEx_ok k_cpu_Exec rfl rfl ?_
          repeat' (first | exact trivial | exact (rfl : true = true) | (refine Exists.intro (some (.clo (.func 76) [] [])) ?_; refine And.intro rfl ?_) | (refine Exists.intro m ?_; refine And.intro ⟨rfl, rfl, rfl, rfl, hok⟩ ?_) | (refine And.intro ?_ ?_) | (refine fun _ => ?_))
          all_goals
            refine e_run tt_ok ctEx_ok k_cpu_Exec [] 60 (by kernel_rfl) ?_
            refine ⟨fun he => absurd he (by decide), fun _ => ?_⟩
            rw [show finR (othX 22 ⟨k, 0, m⟩) = ((Mach.mk k.o_ladd 0 m).k, 0, m) from rfl] at hK
            exact fin_k tt_ok (rs := rs_cpu_Exec) rfl rfl hK [0, 1] rfl rfl rfl rfl rfl rfl
        · refine ⟨none, rfl, fun h' => absurd h' (by decide), fun _ => ?_⟩
          refine c_ways tt_ok ctEx_ok k_cpu_Exec rfl rfl ?_
          repeat' (first | exact trivial | exact (rfl : true = true) | (refine Exists.intro (some (.clo (.func 77) [] [])) ?_; refine And.intro rfl ?_) | (refine Exists.intro m ?_; refine And.intro ⟨rfl, rfl, rfl, rfl, hok⟩ ?_) | (refine And.intro ?_ ?_) | (refine fun _ => ?_))
          all_goals
            refine e_run tt_ok ctEx_ok k_cpu_Exec [] 60 (by kernel_rfl) ?_
            refine ⟨fun he => absurd he (by decide), fun _ => ?_⟩
            rw [show finR (othX 56 ⟨k, 0, m⟩) = ((Mach.mk k.o_lsub 0 m).k, 0, m) from rfl] at hK
            exact fin_k tt_ok (rs := rs_cpu_Exec) rfl rfl hK [0, 1] rfl rfl rfl rfl rfl rfl
        · refine ⟨none, rfl, fun h' => absurd h' (by decide), fun _ => ?_⟩
          refine c_ways tt_ok ctEx_ok k_cpu_Exec rfl rfl ?_
          repeat' (first | exact trivial | exact (rfl : true = true) | (refine Exists.intro (some (.clo (.func 78) [] [])) ?_; refine And.intro rfl ?_) | (refine Exists.intro m ?_; refine And.intro ⟨rfl, rfl, rfl, rfl⟩ ?_) | (refine And.intro ?_ ?_) | (refine fun _ => ?_))
          all_goals
            refine e_run tt_ok ctEx_ok k_cpu_Exec [] 60 (by kernel_rfl) ?_
            refine ⟨fun he => absurd he (by decide), fun _ => ?_⟩
            rw [show finR (othX 55 ⟨k, 0, m⟩) = ((Mach.mk k.o_lsum 0 m).k, 0, m) from rfl] at hK
            exact fin_k tt_ok (rs := rs_cpu_Exec) rfl rfl hK [0, 1] rfl rfl rfl rfl rfl rfl
        · refine ⟨none, rfl, fun h' => absurd h' (by decide), fun _ => ?_⟩
          refine c_ways tt_ok ctEx_ok k_cpu_Exec rfl rfl ?_
          repeat' (first | exact trivial | exact (rfl : true = true) | (refine Exists.intro (some (.clo (.func 79) [] [])) ?_; refine And.intro rfl ?_) | (refine Exists.intro m ?_; refine And.intro ⟨rfl, rfl, rfl, rfl⟩ ?_) | (refine And.intro ?_ ?_) | (refine fun _ => ?_))
          all_goals
            refine e_run tt_ok ctEx_ok k_cpu_Exec [] 60 (by kernel_rfl) ?_
            refine ⟨fun he => absurd he (by decide), fun _ => ?_⟩
            rw [show finR (othX 79 ⟨k, 0, m⟩) = ((Mach.mk k.o_ldiff 0 m).k, 0, m) from rfl] at hK
            exact fin_k tt_ok (rs := rs_cpu_Exec) rfl rfl hK [0, 1] rfl rfl rfl rfl rfl rfl
        · refine ⟨none, rfl, fun h' => absurd h' (by decide), fun _ => ?_⟩
          refine c_ways tt_ok ctEx_ok k_cpu_Exec rfl rfl ?_
          repeat' (first | exact trivial | exact (rfl : true = true) | (refine Exists.intro (some (.clo (.func 80) [] [])) ?_; refine And.intro rfl ?_) | (refine Exists.intro m ?_; refine And.intro ⟨rfl, rfl, rfl, rfl⟩ ?_) | (refine And.intro ?_ ?_) | (refine fun _ => ?_))
          all_goals
            refine e_run tt_ok ctEx_ok k_cpu_Exec [] 60 (by kernel_rfl) ?_
            refine ⟨fun he => absurd he (by decide), fun _ => ?_⟩
            rw [show finR (othX 49 ⟨k, 0, m⟩) = ((Mach.mk k.o_lmul 0 m).k, 0, m) from rfl] at hK
            exact fin_k tt_ok (rs := rs_cpu_Exec) rfl rfl hK [0, 1] rfl rfl rfl rfl rfl rfl
        · refine ⟨none, rfl, fun h' => absurd h' (by decide), fun _ => ?_⟩
          refine c_ways tt_ok ctEx_ok k_cpu_Exec rfl rfl ?_
          repeat' (first | exact trivial | exact (rfl : true = true) | (refine Exists.intro (some (.clo (.func 81) [] [])) ?_; refine And.intro rfl ?_) | (refine Exists.intro m ?_; refine And.intro ⟨rfl, rfl, rfl, rfl⟩ ?_) | (refine And.intro ?_ ?_) | (refine fun _ => ?_))
          all_goals
            refine e_run tt_ok ctEx_ok k_cpu_Exec [] 60 (by kernel_rfl) ?_
            refine ⟨fun he => absurd he (by decide), fun _ => ?_⟩
            rw [show finR (othX 26 ⟨k, 0, m⟩) = ((Mach.mk k.o_ldiv 0 m).k, 0, m) from rfl] at hK
            exact fin_k tt_ok (rs := rs_cpu_Exec) rfl rfl hK [0, 1] rfl rfl rfl rfl rfl rfl
        · refine ⟨none, rfl, fun h' => absurd h' (by decide), fun _ => ?_⟩
          refine c_ways tt_ok ctEx_ok k_cpu_Exec rfl rfl ?_
          repeat' (first | exact trivial | exact (rfl : true = true) | (refine Exists.intro (some (.clo (.func 82) [] [])) ?_; refine And.intro rfl ?_) | (refine Exists.intro m ?_; refine And.intro ⟨rfl, rfl, rfl, rfl⟩ ?_) | (refine And.intro ?_ ?_) | (refine fun _ => ?_))
          all_goals
            refine e_run tt_ok ctEx_ok k_cpu_Exec [] 60 (by kernel_rfl) ?_
            refine ⟨fun he => absurd he (by decide), fun _ => ?_⟩
            rw [show finR (othX 54 ⟨k, 0, m⟩) = ((Mach.mk k.o_lshl 0 m).k, 0, m) from rfl] at hK
            exact fin_k tt_ok (rs := rs_cpu_Exec) rfl rfl hK [0, 1] rfl rfl rfl rfl rfl rfl
        · refine ⟨none, rfl, fun h' => absurd h' (by decide), fun _ => ?_⟩
          refine c_ways tt_ok ctEx_ok k_cpu_Exec rfl rfl ?_
          repeat' (first | exact trivial | exact (rfl : true = true) | (refine Exists.intro (some (.clo (.func 83) [] [])) ?_; refine And.intro rfl ?_) | (refine Exists.intro m ?_; refine And.intro ⟨rfl, rfl, rfl, rfl⟩ ?_) | (refine And.intro ?_ ?_) | (refine fun _ => ?_))
          all_goals
            refine e_run tt_ok ctEx_ok k_cpu_Exec [] 60 (by kernel_rfl) ?_
            refine ⟨fun he => absurd he (by decide), fun _ => ?_⟩
            rw [show finR (othX 53 ⟨k, 0, m⟩) = ((Mach.mk k.o_lshr 0 m).k, 0, m) from rfl] at hK
            exact fin_k tt_ok (rs := rs_cpu_Exec) rfl rfl hK [0, 1] rfl rfl rfl rfl rfl rfl
        · refine ⟨none, rfl, fun h' => absurd h' (by decide), fun _ => ?_⟩
          refine c_ways tt_ok ctEx_ok k_cpu_Exec rfl rfl ?_
          repeat' (first | exact trivial | exact (rfl : true = true) | (refine Exists.intro (some (.clo (.func 84) [] [])) ?_; refine And.intro rfl ?_) | (refine Exists.intro m ?_; refine And.intro ⟨rfl, rfl, rfl, rfl⟩ ?_) | (refine And.intro ?_ ?_) | (refine fun _ => ?_))
          all_goals
            refine e_run tt_ok ctEx_ok k_cpu_Exec [] 60 (by kernel_rfl) ?_
            refine ⟨fun he => absurd he (by decide), fun _ => ?_⟩
            rw [show finR (othX 25 ⟨k, 0, m⟩) = ((Mach.mk k.o_norm 0 m).k, 0, m) from rfl] at hK
            exact fin_k tt_ok (rs := rs_cpu_Exec) rfl rfl hK [0, 1] rfl rfl rfl rfl rfl rfl
        · refine ⟨none, rfl, fun h' => absurd h' (by decide), fun _ => ?_⟩
          refine c_ways tt_ok ctEx_ok k_cpu_Exec rfl rfl ?_
          repeat' (first | exact trivial | exact (rfl : true = true) | (refine Exists.intro (some (.clo (.func 85) [] [])) ?_; refine And.intro rfl ?_) | (refine Exists.intro m ?_; refine And.intro ⟨rfl, rfl, rfl, rfl, hok⟩ ?_) | (refine And.intro ?_ ?_) | (refine fun _ => ?_))
          all_goals
            refine e_run tt_ok ctEx_ok k_cpu_Exec [] 60 (by kernel_rfl) ?_
            refine ⟨fun he => absurd he (by decide), fun _ => ?_⟩
            rw [show finR (othX 29 ⟨k, 0, m⟩) = ((Mach.mk k.o_xdble 0 m).k, 0, m) from rfl] at hK
            exact fin_k tt_ok (rs := rs_cpu_Exec) rfl rfl hK [0, 1] rfl rfl rfl rfl rfl rfl
        · refine ⟨none, rfl, fun h' => absurd h' (by decide), fun _ => ?_⟩
          refine c_ways tt_ok ctEx_ok k_cpu_Exec rfl rfl ?_
          repeat' (first | exact trivial | exact (rfl : true = true) | (refine Exists.intro (some (.clo (.func 86) [] [])) ?_; refine And.intro rfl ?_) | (refine Exists.intro m ?_; refine And.intro ⟨rfl, rfl, rfl, rfl, hok⟩ ?_) | (refine And.intro ?_ ?_) | (refine fun _ => ?_))
          all_goals
            refine e_run tt_ok ctEx_ok k_cpu_Exec [] 60 (by kernel_rfl) ?_
            refine ⟨fun he => absurd he (by decide), fun _ => ?_⟩
            rw [show finR (othX 76 ⟨k, 0, m⟩) = ((Mach.mk k.o_csngl 0 m).k, 0, m) from rfl] at hK
            exact fin_k tt_ok (rs := rs_cpu_Exec) rfl rfl hK [0, 1] rfl rfl rfl rfl rfl rfl
        · refine ⟨none, rfl, fun h' => absurd h' (by decide), fun _ => ?_⟩
          refine c_ways tt_ok ctEx_ok k_cpu_Exec rfl rfl ?_
          repeat' (first | exact trivial | exact (rfl : true = true) | (refine Exists.intro (some (.clo (.func 87) [] [])) ?_; refine And.intro rfl ?_) | (refine Exists.intro m ?_; refine And.intro ⟨rfl, rfl, rfl, rfl, hok⟩ ?_) | (refine And.intro ?_ ?_) | (refine fun _ => ?_))
          all_goals
            refine e_run tt_ok ctEx_ok k_cpu_Exec [] 60 (by kernel_rfl) ?_
            refine ⟨fun he => ?_, fun he => ?_⟩
            · rw [show finR (othX 1 ⟨k, 0, m⟩) = (.zero, 4, (Mach.lb ⟨k, 0, m⟩).m) by rw [show othX 1 ⟨k, 0, m⟩ = Mach.lb ⟨k, 0, m⟩ from rfl]; simp only [finR, show ((Mach.lb ⟨k, 0, m⟩).e != 0) = true from he, cond_true, kSel_t]] at hK
              exact fin_k tt_ok (rs := rs_cpu_Exec) rfl rfl hK [0, 1] rfl rfl rfl rfl rfl rfl
            · rw [show finR (othX 1 ⟨k, 0, m⟩) = ((Mach.lb ⟨k, 0, m⟩).k, 0, (Mach.lb ⟨k, 0, m⟩).m) by rw [show othX 1 ⟨k, 0, m⟩ = Mach.lb ⟨k, 0, m⟩ from rfl]; simp only [finR, show ((Mach.lb ⟨k, 0, m⟩).e != 0) = false from he, cond_false, kSel_f]] at hK
              exact fin_k tt_ok (rs := rs_cpu_Exec) rfl rfl hK [0, 1] rfl rfl rfl rfl rfl rfl
        · refine ⟨none, rfl, fun h' => absurd h' (by decide), fun _ => ?_⟩
          refine c_ways tt_ok ctEx_ok k_cpu_Exec rfl rfl ?_
          repeat' (first | exact trivial | exact (rfl : true = true) | (refine Exists.intro (some (.clo (.func 88) [] [])) ?_; refine And.intro rfl ?_) | (refine Exists.intro m ?_; refine And.intro ⟨rfl, rfl, rfl, rfl, hok⟩ ?_) | (refine And.intro ?_ ?_) | (refine fun _ => ?_))
          all_goals
            refine e_run tt_ok ctEx_ok k_cpu_Exec [] 60 (by kernel_rfl) ?_
            refine ⟨fun he => ?_, fun he => ?_⟩
            · rw [show finR (othX 59 ⟨k, 0, m⟩) = (.zero, 4, (Mach.sb ⟨k, 0, m⟩).m) by rw [show othX 59 ⟨k, 0, m⟩ = Mach.sb ⟨k, 0, m⟩ from rfl]; simp only [finR, show ((Mach.sb ⟨k, 0, m⟩).e != 0) = true from he, cond_true, kSel_t]] at hK
              exact fin_k tt_ok (rs := rs_cpu_Exec) rfl rfl hK [0, 1] rfl rfl rfl rfl rfl rfl
            · rw [show finR (othX 59 ⟨k, 0, m⟩) = ((Mach.sb ⟨k, 0, m⟩).k, 0, (Mach.sb ⟨k, 0, m⟩).m) by rw [show othX 59 ⟨k, 0, m⟩ = Mach.sb ⟨k, 0, m⟩ from rfl]; simp only [finR, show ((Mach.sb ⟨k, 0, m⟩).e != 0) = false from he, cond_false, kSel_f]] at hK
              exact fin_k tt_ok (rs := rs_cpu_Exec) rfl rfl hK [0, 1] rfl rfl rfl rfl rfl rfl
        · refine ⟨none, rfl, fun h' => absurd h' (by decide), fun _ => ?_⟩
          refine c_ways tt_ok ctEx_ok k_cpu_Exec rfl rfl ?_
          repeat' (first | exact trivial | exact (rfl : true = true) | (refine Exists.intro (some (.clo (.func 89) [] [])) ?_; refine And.intro rfl ?_) | (refine Exists.intro m ?_; refine And.intro ⟨rfl, rfl, rfl, rfl, hok⟩ ?_) | (refine And.intro ?_ ?_) | (refine fun _ => ?_))
          all_goals
            refine e_run tt_ok ctEx_ok k_cpu_Exec [] 60 (by kernel_rfl) ?_
            refine ⟨fun he => ?_, fun he => ?_⟩
            · rw [show finR (othX 74 ⟨k, 0, m⟩) = (.zero, 4, (Mach.move ⟨k, 0, m⟩).m) by rw [show othX 74 ⟨k, 0, m⟩ = Mach.move ⟨k, 0, m⟩ from rfl]; simp only [finR, show ((Mach.move ⟨k, 0, m⟩).e != 0) = true from he, cond_true, kSel_t]] at hK
              exact fin_k tt_ok (rs := rs_cpu_Exec) rfl rfl hK [0, 1] rfl rfl rfl rfl rfl rfl
            · rw [show finR (othX 74 ⟨k, 0, m⟩) = ((Mach.move ⟨k, 0, m⟩).k, 0, (Mach.move ⟨k, 0, m⟩).m) by rw [show othX 74 ⟨k, 0, m⟩ = Mach.move ⟨k, 0, m⟩ from rfl]; simp only [finR, show ((Mach.move ⟨k, 0, m⟩).e != 0) = false from he, cond_false, kSel_f]] at hK
              exact fin_k tt_ok (rs := rs_cpu_Exec) rfl rfl hK [0, 1] rfl rfl rfl rfl rfl rfl
        · refine ⟨none, rfl, fun h' => absurd h' (by decide), fun _ => ?_⟩
          refine c_ways tt_ok ctEx_ok k_cpu_Exec rfl rfl ?_
          repeat' (first | exact trivial | exact (rfl : true = true) | (refine Exists.intro (some (.clo (.func 90) [] [])) ?_; refine And.intro rfl ?_) | (refine Exists.intro m ?_; refine And.intro ⟨rfl, rfl, rfl, rfl⟩ ?_) | (refine And.intro ?_ ?_) | (refine fun _ => ?_))
          all_goals
            refine e_run tt_ok ctEx_ok k_cpu_Exec [] 60 (by kernel_rfl) ?_
            refine ⟨fun he => absurd he (by decide), fun _ => ?_⟩
            rw [show finR (othX 6 ⟨k, 0, m⟩) = ((Mach.mk k.gcall 0 m).k, 0, m) from rfl] at hK
            exact fin_k tt_ok (rs := rs_cpu_Exec) rfl rfl hK [0, 1] rfl rfl rfl rfl rfl rfl
        · refine ⟨none, rfl, fun h' => absurd h' (by decide), fun _ => ?_⟩
          refine c_ways tt_ok ctEx_ok k_cpu_Exec rfl rfl ?_
          repeat' (first | exact trivial | exact (rfl : true = true) | (refine Exists.intro (some (.clo (.func 91) [] [])) ?_; refine And.intro rfl ?_) | (refine Exists.intro m ?_; refine And.intro ⟨rfl, rfl, rfl, rfl⟩ ?_) | (refine And.intro ?_ ?_) | (refine fun _ => ?_))
          all_goals
            refine e_run tt_ok ctEx_ok k_cpu_Exec [] 60 (by kernel_rfl) ?_
            refine ⟨fun he => absurd he (by decide), fun _ => ?_⟩
            rw [show finR (othX 60 ⟨k, 0, m⟩) = ((Mach.mk k.gajw 0 m).k, 0, m) from rfl] at hK
            exact fin_k tt_ok (rs := rs_cpu_Exec) rfl rfl hK [0, 1] rfl rfl rfl rfl rfl rfl
        · refine ⟨none, rfl, fun h' => absurd h' (by decide), fun _ => ?_⟩
          refine c_ways tt_ok ctEx_ok k_cpu_Exec rfl rfl ?_
          repeat' (first | exact trivial | exact (rfl : true = true) | (refine Exists.intro (some (.clo (.func 92) [] [])) ?_; refine And.intro rfl ?_) | (refine Exists.intro m ?_; refine And.intro ⟨rfl, rfl, rfl, rfl, hok⟩ ?_) | (refine And.intro ?_ ?_) | (refine fun _ => ?_))
          all_goals
            refine e_run tt_ok ctEx_ok k_cpu_Exec [] 60 (by kernel_rfl) ?_
            refine ⟨fun he => ?_, fun he => ?_⟩
            · rw [show finR (othX 32 ⟨k, 0, m⟩) = (.zero, 4, (Mach.ret ⟨k, 0, m⟩).m) by rw [show othX 32 ⟨k, 0, m⟩ = Mach.ret ⟨k, 0, m⟩ from rfl]; simp only [finR, show ((Mach.ret ⟨k, 0, m⟩).e != 0) = true from he, cond_true, kSel_t]] at hK
              exact fin_k tt_ok (rs := rs_cpu_Exec) rfl rfl hK [0, 1] rfl rfl rfl rfl rfl rfl
            · rw [show finR (othX 32 ⟨k, 0, m⟩) = ((Mach.ret ⟨k, 0, m⟩).k, 0, (Mach.ret ⟨k, 0, m⟩).m) by rw [show othX 32 ⟨k, 0, m⟩ = Mach.ret ⟨k, 0, m⟩ from rfl]; simp only [finR, show ((Mach.ret ⟨k, 0, m⟩).e != 0) = false from he, cond_false, kSel_f]] at hK
              exact fin_k tt_ok (rs := rs_cpu_Exec) rfl rfl hK [0, 1] rfl rfl rfl rfl rfl rfl
        · refine ⟨none, rfl, fun h' => absurd h' (by decide), fun _ => ?_⟩
          refine c_ways tt_ok ctEx_ok k_cpu_Exec rfl rfl ?_
          repeat' (first | exact trivial | exact (rfl : true = true) | (refine Exists.intro (some (.clo (.func 93) [] [])) ?_; refine And.intro rfl ?_) | (refine Exists.intro m ?_; refine And.intro ⟨rfl, rfl, rfl, rfl, hok⟩ ?_) | (refine And.intro ?_ ?_) | (refine fun _ => ?_))
          all_goals
            refine e_run tt_ok ctEx_ok k_cpu_Exec [] 60 (by kernel_rfl) ?_
            refine ⟨fun he => ?_, fun he => ?_⟩
            · rw [show finR (othX 33 ⟨k, 0, m⟩) = (.zero, 4, (Mach.lend ⟨k, 0, m⟩).m) by rw [show othX 33 ⟨k, 0, m⟩ = Mach.lend ⟨k, 0, m⟩ from rfl]; simp only [finR, show ((Mach.lend ⟨k, 0, m⟩).e != 0) = true from he, cond_true, kSel_t]] at hK
              exact fin_k tt_ok (rs := rs_cpu_Exec) rfl rfl hK [0, 1] rfl rfl rfl rfl rfl rfl
            · rw [show finR (othX 33 ⟨k, 0, m⟩) = ((Mach.lend ⟨k, 0, m⟩).k, 0, (Mach.lend ⟨k, 0, m⟩).m) by rw [show othX 33 ⟨k, 0, m⟩ = Mach.lend ⟨k, 0, m⟩ from rfl]; simp only [finR, show ((Mach.lend ⟨k, 0, m⟩).e != 0) = false from he, cond_false, kSel_f]] at hK
              exact fin_k tt_ok (rs := rs_cpu_Exec) rfl rfl hK [0, 1] rfl rfl rfl rfl rfl rfl
        · refine ⟨none, rfl, fun h' => absurd h' (by decide), fun _ => ?_⟩
          refine c_ways tt_ok ctEx_ok k_cpu_Exec rfl rfl ?_
          repeat' (first | exact trivial | exact (rfl : true = true) | (refine Exists.intro (some (.clo (.func 94) [] [])) ?_; refine And.intro rfl ?_) | (refine Exists.intro m ?_; refine And.intro ⟨rfl, rfl, rfl, rfl⟩ ?_) | (refine And.intro ?_ ?_) | (refine fun _ => ?_))
          all_goals
            refine e_run tt_ok ctEx_ok k_cpu_Exec [] 60 (by kernel_rfl) ?_
            refine ⟨fun he => absurd he (by decide), fun _ => ?_⟩
            rw [show finR (othX 16 ⟨k, 0, m⟩) = ((Mach.mk k.seterr 0 m).k, 0, m) from rfl] at hK
            exact fin_k tt_ok (rs := rs_cpu_Exec) rfl rfl hK [0, 1] rfl rfl rfl rfl rfl rfl
        · refine ⟨none, rfl, fun h' => absurd h' (by decide), fun _ => ?_⟩
          refine c_ways tt_ok ctEx_ok k_cpu_Exec rfl rfl ?_
          repeat' (first | exact trivial | exact (rfl : true = true) | (refine Exists.intro (some (.clo (.func 95) [] [])) ?_; refine And.intro rfl ?_) | (refine Exists.intro m ?_; refine And.intro ⟨rfl, rfl, rfl, rfl⟩ ?_) | (refine And.intro ?_ ?_) | (refine fun _ => ?_))
          all_goals
            refine e_run tt_ok ctEx_ok k_cpu_Exec [] 60 (by kernel_rfl) ?_
            refine ⟨fun he => absurd he (by decide), fun _ => ?_⟩
            rw [show finR (othX 41 ⟨k, 0, m⟩) = ((Mach.mk k.o_testerr 0 m).k, 0, m) from rfl] at hK
            exact fin_k tt_ok (rs := rs_cpu_Exec) rfl rfl hK [0, 1] rfl rfl rfl rfl rfl rfl
        · refine ⟨none, rfl, fun h' => absurd h' (by decide), fun _ => ?_⟩
          refine c_ways tt_ok ctEx_ok k_cpu_Exec rfl rfl ?_
          repeat' (first | exact trivial | exact (rfl : true = true) | (refine Exists.intro (some (.clo (.func 96) [] [])) ?_; refine And.intro rfl ?_) | (refine Exists.intro m ?_; refine And.intro ⟨rfl, rfl, rfl, rfl⟩ ?_) | (refine And.intro ?_ ?_) | (refine fun _ => ?_))
          all_goals
            refine e_run tt_ok ctEx_ok k_cpu_Exec [] 60 (by kernel_rfl) ?_
            refine ⟨fun he => absurd he (by decide), fun _ => ?_⟩
            rw [show finR (othX 87 ⟨k, 0, m⟩) = ((Mach.mk k.clrh 0 m).k, 0, m) from rfl] at hK
            exact fin_k tt_ok (rs := rs_cpu_Exec) rfl rfl hK [0, 1] rfl rfl rfl rfl rfl rfl
        · refine ⟨none, rfl, fun h' => absurd h' (by decide), fun _ => ?_⟩
          refine c_ways tt_ok ctEx_ok k_cpu_Exec rfl rfl ?_
          repeat' (first | exact trivial | exact (rfl : true = true) | (refine Exists.intro (some (.clo (.func 97) [] [])) ?_; refine And.intro rfl ?_) | (refine Exists.intro m ?_; refine And.intro ⟨rfl, rfl, rfl, rfl⟩ ?_) | (refine And.intro ?_ ?_) | (refine fun _ => ?_))
          all_goals
            refine e_run tt_ok ctEx_ok k_cpu_Exec [] 60 (by kernel_rfl) ?_
            refine ⟨fun he => absurd he (by decide), fun _ => ?_⟩
            rw [show finR (othX 88 ⟨k, 0, m⟩) = ((Mach.mk k.seth 0 m).k, 0, m) from rfl] at hK
            exact fin_k tt_ok (rs := rs_cpu_Exec) rfl rfl hK [0, 1] rfl rfl rfl rfl rfl rfl
        · refine ⟨none, rfl, fun h' => absurd h' (by decide), fun _ => ?_⟩
          refine c_ways tt_ok ctEx_ok k_cpu_Exec rfl rfl ?_
          repeat' (first | exact trivial | exact (rfl : true = true) | (refine Exists.intro (some (.clo (.func 98) [] [])) ?_; refine And.intro rfl ?_) | (refine Exists.intro m ?_; refine And.intro ⟨rfl, rfl, rfl, rfl⟩ ?_) | (refine And.intro ?_ ?_) | (refine fun _ => ?_))
          all_goals
            refine e_run tt_ok ctEx_ok k_cpu_Exec [] 60 (by kernel_rfl) ?_
            refine ⟨fun he => absurd he (by decide), fun _ => ?_⟩
            rw [show finR (othX 89 ⟨k, 0, m⟩) = ((Mach.mk k.o_testhalterr 0 m).k, 0, m) from rfl] at hK
            exact fin_k tt_ok (rs := rs_cpu_Exec) rfl rfl hK [0, 1] rfl rfl rfl rfl rfl rfl
end Go.Proofs
