/- The walk: each function once. -/
import Derived.Test.YtbefefoegbfamaaSpec
import Derived.Test.YtbefefoegbfamaaSxB

namespace Go.Proofs
open Go Go.Sx

set_option maxRecDepth 10000

theorem valid_c (fn arg : Int) : Pure Try.prog 29 [.agg [.int .u8 fn, .int .i32 arg]] (.t (.s (.bool (validS fn)))) := by
  refine enter Try.func29 rfl Try.ntmps29 rfl rfl (fun φ w0 β0 F => ?_)
  refine c_run (tt := tt) (ct := []) tt_ok trivial ks29 [] 60 (by kernel_rfl) ?_
  exact fin_ret tt_ok (rs := [.tmp 2]) rfl rfl () [] trivial rfl rfl rfl rfl rfl rfl
def sp29 : List TV → Option (Prop × FV)
  | [.agg [.int .u8 fn, .int .i32 _]] => some (True, .t (.s (.bool (validS fn))))
  | _ => none
theorem ce29 : CEok Try.prog 29 sp29 := ⟨cal29, fun args p v h hp => by
  unfold sp29 at h; split at h
  · cases h; exact valid_c _ _
  · cases h⟩

theorem wrap_c (t : Int) : Pure Try.prog 28 [.s (.int .i64 t)] (.t (.s (.int .i32 (wrapS t)))) := by
  refine enter Try.func28 rfl Try.ntmps28 rfl rfl (fun φ w0 β0 F => ?_)
  refine c_run (tt := tt) (ct := []) tt_ok trivial ks28 [] 60 (by kernel_rfl) ?_
  refine ⟨fun h1 => ⟨fun h2 => ?_, fun h2 => ?_⟩, fun h1 => ⟨fun h2 => ?_, fun h2 => ?_⟩⟩
  all_goals
    refine fin_ret tt_ok (rs := [.tmp 2]) rfl rfl () [] trivial ?_ rfl rfl rfl rfl rfl
    simp only [decide_eq_true_eq, decide_eq_false_iff_not] at h1 h2
    simp only [wrapS, h1, h2, if_true, if_false]
    rfl
def sp28 : List TV → Option (Prop × FV)
  | [.s (.int .i64 t)] => some (True, .t (.s (.int .i32 (wrapS t))))
  | _ => none
theorem ce28 : CEok Try.prog 28 sp28 := ⟨cal28, fun args p v h hp => by
  unfold sp28 at h; split at h
  · cases h; exact wrap_c _
  · cases h⟩

theorem one_u {v : Value} (h : v.oneCell' = true) : ∀ u ∈ [v], u.oneCell' = true := fun u hu => by
  cases List.mem_singleton.1 hu; exact h

/-- put onto nothing. -/
theorem put_c : ∀ (n : Nat) (fn v : Int), PutOk n v → n ≤ 1000 → TriS Try.prog 30 [.s (.raw (.slice none 0 0)), .s (.int .u8 fn), .s (.int .i32 v)] []
    (γ := Nat) (fun c => (putF n fn v).length ≤ c) (fun c => .t (.s (.sl 0 0 (putF n fn v).length c))) (fun c => [.own 5 1 c (bytesI (putF n fn v))])
  | n, fn, v, ho, hn => by
    refine enter Try.func30 rfl Try.ntmps30 rfl rfl (fun φ w0 β0 F => ?_)
    refine c_run (tt := tt) (ct := []) tt_ok trivial ks30 [] 60 (by kernel_rfl) ?_
    refine ⟨fun h1 => ?_, fun h1 => ⟨fun h2 => ?_, fun h2 => ?_⟩⟩
    · simp only [decide_eq_true_eq] at h1
      match n, ho with
      | 0, ho => exact absurd ho.1 (by omega)
      | n + 1, ho =>
        have ih := put_c n 6 _ (ho.1 h1) (by omega)
        have hl := putF_length n 6 ((notI .i32 v).fdiv (2 ^ min 4 IntKind.i32.bits))
        have hp : putF (n + 1) fn v = putF n 6 ((notI .i32 v).fdiv (2 ^ min 4 IntKind.i32.bits)) ++ [lastB fn v] := by simp only [putF, if_pos h1]
        generalize putF n 6 ((notI .i32 v).fdiv (2 ^ min 4 IntKind.i32.bits)) = l at ih hl hp
        rw [hp]
        refine l_call ih cal30 [] rfl rfl rfl trivial rfl (whenB_spec rfl) rfl rfl rfl rfl rfl rfl (fun c hc => ?_)
        refine l_run (tt := tt) (ct := []) tt_ok trivial ks30 [] 60 rfl (by kernel_rfl) ?_
        refine ⟨⟨rfl, by simp, Nat.le_refl _, one_u rfl, by simp [maxLen]; omega, by simp; omega⟩, fun c1 hc1 hc2 => ?_⟩
        exact fin_ret tt_ok (rs := [.tmp 6]) rfl rfl c1 [2] (by simpa using hc1) (by simp [packF, FV.rn, TV.rn, SV.rn]) (by rw [bytesI_append]; rfl) rfl rfl rfl rfl
    · simp only [decide_eq_true_eq, decide_eq_false_iff_not] at h1 h2
      match n, ho with
      | 0, ho => exact absurd ho.2 (by omega)
      | n + 1, ho =>
        have ih := put_c n 2 _ (ho.2 h2) (by omega)
        have hl := putF_length n 2 (v.fdiv (2 ^ min 4 IntKind.i32.bits))
        have hp : putF (n + 1) fn v = putF n 2 (v.fdiv (2 ^ min 4 IntKind.i32.bits)) ++ [lastB fn v] := by simp only [putF, if_neg h1, if_pos h2]
        generalize putF n 2 (v.fdiv (2 ^ min 4 IntKind.i32.bits)) = l at ih hl hp
        rw [hp]
        refine l_call ih cal30 [] rfl rfl rfl trivial rfl (whenB_spec rfl) rfl rfl rfl rfl rfl rfl (fun c hc => ?_)
        refine l_run (tt := tt) (ct := []) tt_ok trivial ks30 [] 60 rfl (by kernel_rfl) ?_
        refine ⟨⟨rfl, by simp, Nat.le_refl _, one_u rfl, by simp [maxLen]; omega, by simp; omega⟩, fun c1 hc1 hc2 => ?_⟩
        exact fin_ret tt_ok (rs := [.tmp 6]) rfl rfl c1 [2] (by simpa using hc1) (by simp [packF, FV.rn, TV.rn, SV.rn]) (by rw [bytesI_append]; rfl) rfl rfl rfl rfl
    · simp only [decide_eq_false_iff_not] at h1 h2
      have hp : putF n fn v = [lastB fn v] := by
        cases n with
        | zero => rfl
        | succ n => simp only [putF, if_neg h1, if_neg h2]
      rw [hp]
      refine ⟨⟨Nat.le_refl _, one_u rfl, by decide, by decide⟩, fun c1 hc1 hc2 => ?_⟩
      exact fin_ret tt_ok (rs := [.tmp 6]) rfl rfl c1 [2] (by simpa using hc1) rfl rfl rfl rfl rfl rfl

end Go.Proofs

namespace Go.Proofs
open Go Go.Sx
set_option maxRecDepth 10000

abbrev ct0 : CT := [(29, sp29), (28, sp28)]
theorem ct0_ok : CTok Try.prog ct0 := ⟨ce29, ce28, trivial⟩

/-- Put. -/
theorem Put_c (n : Nat) (fn v : Int) (hv : validS fn = true) (ho : PutOk n v) (hn : n ≤ 1000) : TriS Try.prog 14 [.agg [.int .u8 fn, .int .i32 v]] []
    (γ := Nat) (fun c => (putF n fn v).length ≤ c) (fun c => .tup [.s (.sl 0 0 (putF n fn v).length c), .s (.int .i64 0)]) (fun c => [.own 5 1 c (bytesI (putF n fn v))]) := by
  refine enter Try.func14 rfl Try.ntmps14 rfl rfl (fun φ w0 β0 F => ?_)
  refine c_run (tt := tt) (ct := ct0) tt_ok ct0_ok ks14 [] 60 (by kernel_rfl) ?_
  refine ⟨trivial, fun h1 => ?_, fun h1 => ?_⟩
  · exact absurd h1 (by simp [hv])
  · refine l_call (put_c n fn v ho hn) cal30 [] rfl rfl rfl trivial rfl (whenB_spec rfl) rfl rfl rfl rfl rfl rfl (fun c hc => ?_)
    refine l_run (tt := tt) (ct := ct0) tt_ok ct0_ok ks14 [] 60 rfl (by kernel_rfl) ?_
    exact fin_ret tt_ok (rs := [.tmp 2, .tmp 3]) rfl rfl c [1] hc rfl rfl rfl rfl rfl rfl

theorem Get_c (bs : List Int) (cap : Nat) : TriS Try.prog 11 [.s (.sl 0 0 bs.length cap)] [.view (bytesI bs)]
    (γ := Unit) (fun _ => True) (fun _ => .tup [.agg [.int .u8 (getS bs).1, .int .i32 (getS bs).2.1], .s (.int .i64 (getS bs).2.2.1), .s (.int .i64 (getS bs).2.2.2)]) (fun _ => [.view (bytesI bs)]) := by
  refine enter Try.func11 rfl Try.ntmps11 rfl rfl (fun φ w0 β0 F => ?_)
  refine c_run (tt := tt) (ct := ct0) tt_ok ct0_ok ks11 [] 60 (by kernel_rfl) ?_
  refine c_loop (α := Nat × Int) (fun x => ((x.1 : Int) ≤ (if (16 : Int) < (bs.length : Int) then 16 else (bs.length : Int))) ∧ getL x.2 x.1 ((bs.take 16).drop x.1) = getL 0 0 (bs.take 16)) (fun x => 16 - x.1)
    (fun x => [(0, .t (.s (.sl 0 0 bs.length cap)), none), (2, .t (.s (.loc 1 0)), none), (5, .t (.s (.int .i32 x.2)), none), (10, .t (.s (.int .i64 (if (16 : Int) < (bs.length : Int) then 16 else (bs.length : Int)))), none), (11, .t (.s (.int .i64 (x.1 : Int))), none)])
    (fun _ => [.view (bytesI bs), .blk 26 [.int .u8 0, .int .i32 0]]) (0, 0) ⟨by split <;> omega, rfl⟩ ?_ ?_
  · exact into [0, 1] ⟨⟨_, rfl, rfl⟩, ⟨_, rfl, rfl⟩, ⟨_, rfl, rfl⟩, ⟨_, rfl, rfl⟩, ⟨_, rfl, rfl⟩, trivial⟩ ⟨_, rfl, rfl⟩ rfl rfl rfl rfl
  · rintro ⟨i, o⟩ ⟨hi, hg⟩
    refine c_run' (tt := tt) (ct := ct0) tt_ok ct0_ok ks11 [] 60 (by kernel_rfl) (by kernel_rfl) ?_
    refine ⟨fun h1 => ?_, fun h1 => ?_⟩
    · simp only [decide_eq_true_eq] at h1
      have hlt : i < bs.length := by split at h1 <;> omega
      have h16 : i < 16 := by split at h1 <;> omega
      refine ⟨i, ⟨rfl, hlt, by simp; omega⟩, .int .u8 (bs.getD i 0), rfl, bytesI_at hlt, i, ⟨rfl, hlt, by simp; omega⟩, .int .u8 (bs.getD i 0), rfl, bytesI_at hlt, ?_⟩
      have hd : (bs.take 16).drop i = bs.getD i 0 :: (bs.take 16).drop (i + 1) := by
        rw [List.drop_eq_getElem_cons (by simp; omega)]
        simp [hlt]
      rw [hd] at hg
      refine ⟨fun h2 => ?_, fun h2 => ⟨fun h3 => ?_, fun h3 => ?_⟩⟩
      · simp only [beq_iff_eq] at h2
        simp only [getL, h2, if_true] at hg
        exact e_again (i + 1, _) ⟨by split <;> split at h1 <;> simp <;> omega, hg⟩ (by simp; omega) (into [0, 1] ⟨⟨_, rfl, rfl⟩, ⟨_, rfl, rfl⟩, ⟨_, rfl, rfl⟩, ⟨_, rfl, rfl⟩, ⟨_, rfl, fvi (by rw [wrap64] <;> simp <;> omega)⟩, trivial⟩ ⟨_, rfl, rfl⟩ rfl rfl rfl rfl)
      · simp only [beq_iff_eq, beq_eq_false_iff_ne, ne_eq] at h2 h3
        simp only [getL, h3, if_true, show ¬ ((6 : Int) = 2) by decide, if_false] at hg
        exact e_again (i + 1, _) ⟨by split <;> split at h1 <;> simp <;> omega, hg⟩ (by simp; omega) (into [0, 1] ⟨⟨_, rfl, rfl⟩, ⟨_, rfl, rfl⟩, ⟨_, rfl, rfl⟩, ⟨_, rfl, rfl⟩, ⟨_, rfl, fvi (by rw [wrap64] <;> simp <;> omega)⟩, trivial⟩ ⟨_, rfl, rfl⟩ rfl rfl rfl rfl)
      · simp only [beq_eq_false_iff_ne, ne_eq] at h2 h3
        simp only [getL, h2, h3, if_false] at hg
        refine fin_ret tt_ok (rs := [.cell 2 26, .tmp 3, .tmp 4]) rfl rfl () [0] trivial ?_ rfl rfl rfl rfl rfl
        simp only [getS, ← hg]
        rw [wrap64 (by omega) (by omega)]
        rfl
    · simp only [decide_eq_false_iff_not] at h1
      have hnil : (bs.take 16).drop i = [] := by
        apply List.drop_eq_nil_of_le
        simp only [List.length_take]
        split at h1 <;> omega
      rw [hnil] at hg
      simp only [getL] at hg
      refine ⟨fun h2 => ?_, fun h2 => ?_⟩
      · refine fin_ret tt_ok (rs := [.cell 2 26, .tmp 3, .tmp 4]) rfl rfl () [0] trivial ?_ rfl rfl rfl rfl rfl
        simp only [decide_eq_true_eq] at h2
        simp only [getS, ← hg, show bs.length < 16 by omega, if_true]
        rfl
      · refine fin_ret tt_ok (rs := [.cell 2 26, .tmp 3, .tmp 4]) rfl rfl () [0] trivial ?_ rfl rfl rfl rfl rfl
        simp only [decide_eq_false_iff_not] at h2
        simp only [getS, ← hg, show ¬ bs.length < 16 by omega, if_false]
        rfl
end Go.Proofs

namespace Go.Proofs
open Go Go.Sx
set_option maxRecDepth 10000

theorem RefGet_c (bs : List Int) (cap : Nat) : TriS Try.prog 12 [.s (.sl 0 0 bs.length cap)] [.view (bytesI bs)]
    (γ := Unit) (fun _ => True) (fun _ => .tup [.agg [.int .u8 (refGetS bs).1, .int .i32 (refGetS bs).2.1], .s (.int .i64 (refGetS bs).2.2.1), .s (.int .i64 (refGetS bs).2.2.2)]) (fun _ => [.view (bytesI bs)]) := by
  refine enter Try.func12 rfl Try.ntmps12 rfl rfl (fun φ w0 β0 F => ?_)
  refine c_run (tt := tt) (ct := ct0) tt_ok ct0_ok ks12 [] 60 (by kernel_rfl) ?_
  refine c_loop (α := Nat × Int) (fun x => x.1 ≤ 16 ∧ refL x.2 x.1 ((bs.take 16).drop x.1) = refL 0 0 (bs.take 16)) (fun x => 16 - x.1)
    (fun x => [(0, .t (.s (.sl 0 0 bs.length cap)), none), (2, .t (.s (.loc 1 0)), none), (5, .t (.s (.int .i64 x.2)), none), (6, .t (.s (.int .i64 (x.1 : Int))), none)])
    (fun _ => [.view (bytesI bs), .blk 26 [.int .u8 0, .int .i32 0]]) (0, 0) ⟨by omega, rfl⟩ ?_ ?_
  · exact into [0, 1] ⟨⟨_, rfl, rfl⟩, ⟨_, rfl, rfl⟩, ⟨_, rfl, rfl⟩, ⟨_, rfl, rfl⟩, trivial⟩ ⟨_, rfl, rfl⟩ rfl rfl rfl rfl
  · rintro ⟨i, o⟩ ⟨hi, hg⟩
    refine c_run' (tt := tt) (ct := ct0) tt_ok ct0_ok ks12 [] 60 (by kernel_rfl) (by kernel_rfl) ?_
    refine ⟨fun h1 => ?_, fun h1 => ?_⟩
    · have h1' : (i : Int) < bs.length ∧ (i : Int) < 16 := by
        have := h1
        simpa using this
      have hlt : i < bs.length := by omega
      have h16 : i < 16 := by omega
      refine ⟨i, ⟨rfl, hlt, by simp; omega⟩, .int .u8 (bs.getD i 0), rfl, bytesI_at hlt, i, ⟨rfl, hlt, by simp; omega⟩, .int .u8 (bs.getD i 0), rfl, bytesI_at hlt, ?_⟩
      have hd : (bs.take 16).drop i = bs.getD i 0 :: (bs.take 16).drop (i + 1) := by
        rw [List.drop_eq_getElem_cons (by simp; omega)]
        simp [hlt]
      rw [hd] at hg
      refine ⟨fun h2 => ?_, fun h2 => ⟨fun h3 => ?_, fun h3 => ?_⟩⟩
      · simp only [refL, h2, cond_true] at hg
        refine fin_ret tt_ok (rs := [.cell 2 26, .tmp 3, .tmp 4]) rfl rfl () [0] trivial ?_ rfl rfl rfl rfl rfl
        simp only [refGetS, ← hg]
        rw [← wrapSucc (i := i) (by omega)]
        rfl
      · refine ⟨trivial, ?_⟩
        simp only [refL, h2, h3, cond_true, cond_false] at hg
        exact e_again (i + 1, _) ⟨h16, hg⟩ (by simp; omega) (into [0, 1] ⟨⟨_, rfl, rfl⟩, ⟨_, rfl, rfl⟩, ⟨_, rfl, rfl⟩, ⟨_, rfl, fvi (by rw [wrap64] <;> simp <;> omega)⟩, trivial⟩ ⟨_, rfl, rfl⟩ rfl rfl rfl rfl)
      · refine ⟨trivial, ?_⟩
        simp only [refL, h2, h3, cond_false] at hg
        exact e_again (i + 1, _) ⟨h16, hg⟩ (by simp; omega) (into [0, 1] ⟨⟨_, rfl, rfl⟩, ⟨_, rfl, rfl⟩, ⟨_, rfl, rfl⟩, ⟨_, rfl, fvi (by rw [wrap64] <;> simp <;> omega)⟩, trivial⟩ ⟨_, rfl, rfl⟩ rfl rfl rfl rfl)
    · have h1' : ¬ (i : Int) < bs.length ∨ ¬ (i : Int) < 16 := by
        have := h1
        simp at this
        by_cases h : (i : Int) < bs.length
        · right; have := this (by omega); omega
        · left; exact h
      have hnil : (bs.take 16).drop i = [] := by
        apply List.drop_eq_nil_of_le
        simp only [List.length_take]
        omega
      rw [hnil] at hg
      simp only [refL] at hg
      refine ⟨fun h2 => ?_, fun h2 => ?_⟩
      · refine fin_ret tt_ok (rs := [.cell 2 26, .tmp 3, .tmp 4]) rfl rfl () [0] trivial ?_ rfl rfl rfl rfl rfl
        simp only [decide_eq_true_eq] at h2
        simp only [refGetS, ← hg, show bs.length < 16 by omega, if_true]
        rfl
      · refine fin_ret tt_ok (rs := [.cell 2 26, .tmp 3, .tmp 4]) rfl rfl () [0] trivial ?_ rfl rfl rfl rfl rfl
        simp only [decide_eq_false_iff_not] at h2
        simp only [refGetS, ← hg, show ¬ bs.length < 16 by omega, if_false]
        rfl
end Go.Proofs

namespace Go.Proofs
open Go Go.Sx
set_option maxRecDepth 10000

def toB (l : List Int) : List UInt8 := l.map fun n => UInt8.ofNat n.toNat

theorem puts_c (fn v : Int) (want : List UInt8) (hv : validS fn = true) (ho : PutOk 8 v) : Pure Try.prog 26 [.s (.int .u8 fn), .s (.int .i32 v), .s (.str want)] (.t (.s (.bool (toB (putF 8 fn v) == want)))) := by
  refine enter Try.func26 rfl Try.ntmps26 rfl rfl (fun φ w0 β0 F => ?_)
  refine c_run (tt := tt) (ct := ct0) tt_ok ct0_ok ks26 [] 60 (by kernel_rfl) ?_
  refine l_call (Put_c 8 fn v hv ho (by decide)) cal14 [] rfl rfl rfl trivial rfl (whenB_spec rfl) rfl rfl rfl rfl rfl rfl (fun c hc => ?_)
  refine l_run (tt := tt) (ct := ct0) tt_ok ct0_ok ks26 [] 60 rfl (by kernel_rfl) ?_
  refine ⟨putF 8 fn v, fun _ => ⟨by rw [seg_bytesI]; simp [bytesI], rfl⟩, ?_⟩
  exact fin_ret tt_ok (rs := [.tmp 6]) rfl rfl () [] trivial rfl rfl rfl rfl rfl rfl
def sp26 : List TV → Option (Prop × FV)
  | [.s (.int .u8 fn), .s (.int .i32 v), .s (.str want)] => some (validS fn = true ∧ PutOk 8 v, .t (.s (.bool (toB (putF 8 fn v) == want))))
  | _ => none
theorem ce26 : CEok Try.prog 26 sp26 := ⟨cal26, fun args p v h hp => by
  unfold sp26 at h; split at h
  · cases h; exact puts_c _ _ _ hp.1 hp.2
  · cases h⟩
abbrev ct1 : CT := [(29, sp29), (28, sp28), (26, sp26)]
theorem ct1_ok : CTok Try.prog ct1 := ⟨ce29, ce28, ce26, trivial⟩

def worksS : Bool := true
theorem works_c : Pure Try.prog 13 [] (.t (.s (.bool true))) := by
  refine enter Try.func13 rfl Try.ntmps13 rfl rfl (fun φ w0 β0 F => ?_)
  refine c_run (tt := tt) (ct := ct1) tt_ok ct1_ok ks13 [] 60 (by kernel_rfl) ?_
  refine l_freeze 0 rfl rfl ?_
  refine l_call (Get_c [32, 32, 69, 153] 4) cal11 [0] rfl rfl rfl trivial rfl (whenB_spec rfl) rfl rfl rfl rfl rfl rfl (fun c hc => ?_)
  refine l_run (tt := tt) (ct := ct1) tt_ok ct1_ok ks13 [] 60 rfl (by kernel_rfl) ?_
  refine ⟨⟨by decide, putOk_i32 (by decide) (by decide)⟩, fun _ => ⟨by decide, putOk_i32 (by decide) (by decide)⟩, fun _ => ⟨by decide, putOk_i32 (by decide) (by decide)⟩, ?_⟩
  refine fin_ret tt_ok (rs := [.tmp 0]) rfl rfl () [] trivial ?_ rfl rfl rfl rfl rfl
  exact fvb (by decide)
end Go.Proofs

namespace Go.Proofs
open Go Go.Sx
set_option maxRecDepth 10000

def sp13 : List TV → Option (Prop × FV)
  | [] => some (True, .t (.s (.bool true)))
  | _ => none
theorem ce13 : CEok Try.prog 13 sp13 := ⟨cal13, fun args p v h hp => by
  unfold sp13 at h; split at h
  · cases h; exact works_c
  · cases h⟩
abbrev ct2 : CT := [(29, sp29), (28, sp28), (26, sp26), (13, sp13)]
theorem ct2_ok : CTok Try.prog ct2 := ⟨ce29, ce28, ce26, ce13, trivial⟩

theorem take_min (b : List Int) (k : Nat) : b.take (min b.length k) = b.take k := by
  rw [Nat.min_comm, ← List.take_eq_take_min]

def stepB (hi data : Int) (i : Nat) : Int := IntKind.u8.wrap (hi + IntKind.u8.wrap (bits .and .u64 (data.fdiv (2 ^ min (2 * i) IntKind.u64.bits)) 15))

end Go.Proofs

namespace Go.Proofs
open Go Go.Sx
set_option maxRecDepth 10000

theorem mixed : Try.prog.follows .mixedOrders = true := by kernel_rfl

end Go.Proofs

namespace Go.Proofs
open Go Go.Sx
set_option maxRecDepth 10000

/-- Len. -/
theorem Len_c (n : Nat) (fn v : Int) (hv : validS fn = true) (ho : PutOk n v) (hn : n ≤ 1000) : Pure Try.prog 15 [.agg [.int .u8 fn, .int .i32 v]] (.t (.s (.int .i64 ((putF n fn v).length : Int)))) := by
  refine enter Try.func15 rfl Try.ntmps15 rfl rfl (fun φ w0 β0 F => ?_)
  refine c_run (tt := tt) (ct := ct0) tt_ok ct0_ok ks15 [] 60 (by kernel_rfl) ?_
  refine ⟨trivial, fun h1 => ?_, fun h1 => ?_⟩
  · exact absurd h1 (by simp [hv])
  · refine l_call (put_c n fn v ho hn) cal30 [] rfl rfl rfl trivial rfl (whenB_spec rfl) rfl rfl rfl rfl rfl rfl (fun c hc => ?_)
    refine l_run (tt := tt) (ct := ct0) tt_ok ct0_ok ks15 [] 60 rfl (by kernel_rfl) ?_
    exact fin_ret tt_ok (rs := [.tmp 2]) rfl rfl () [] trivial rfl rfl rfl rfl rfl rfl
theorem Len_bad (fn v : Int) (hv : validS fn = false) : Pure Try.prog 15 [.agg [.int .u8 fn, .int .i32 v]] (.t (.s (.int .i64 0))) := by
  refine enter Try.func15 rfl Try.ntmps15 rfl rfl (fun φ w0 β0 F => ?_)
  refine c_run (tt := tt) (ct := ct0) tt_ok ct0_ok ks15 [] 60 (by kernel_rfl) ?_
  refine ⟨trivial, fun h1 => ?_, fun h1 => ?_⟩
  · exact fin_ret tt_ok (rs := [.tmp 2]) rfl rfl () [] trivial rfl rfl rfl rfl rfl rfl
  · exact absurd h1 (by simp [hv])
/-- What Len returns. -/
def lenS (fn v : Int) : Int := if validS fn = true then ((putF 7 fn v).length : Int) else 0
theorem Len_all (fn v : Int) (ho : PutOk 7 v) : Pure Try.prog 15 [.agg [.int .u8 fn, .int .i32 v]] (.t (.s (.int .i64 (lenS fn v)))) := by
  unfold lenS
  split
  · exact Len_c 7 fn v (by assumption) ho (by decide)
  · exact Len_bad fn v (by simpa using (by assumption : ¬ validS fn = true))
def sp15 : List TV → Option (Prop × FV)
  | [.agg [.int .u8 fn, .int .i32 v]] => some (PutOk 7 v, .t (.s (.int .i64 (lenS fn v))))
  | _ => none
theorem ce15 : CEok Try.prog 15 sp15 := ⟨cal15, fun args p v h hp => by
  unfold sp15 at h; split at h
  · cases h; exact Len_all _ _ hp
  · cases h⟩
abbrev ct3 : CT := [(29, sp29), (28, sp28), (26, sp26), (13, sp13), (15, sp15)]
theorem ct3_ok : CTok Try.prog ct3 := ⟨ce29, ce28, ce26, ce13, ce15, trivial⟩

end Go.Proofs

namespace Go.Proofs
open Go Go.Sx
set_option maxRecDepth 10000

theorem Put_bad (fn v : Int) (hv : validS fn = false) : Pure Try.prog 14 [.agg [.int .u8 fn, .int .i32 v]] (.tup [.s (.raw (.slice none 0 0)), .s (.int .i64 2)]) := by
  refine enter Try.func14 rfl Try.ntmps14 rfl rfl (fun φ w0 β0 F => ?_)
  refine c_run (tt := tt) (ct := ct0) tt_ok ct0_ok ks14 [] 60 (by kernel_rfl) ?_
  refine ⟨trivial, fun h1 => ?_, fun h1 => ?_⟩
  · exact fin_ret tt_ok (rs := [.tmp 2, .tmp 3]) rfl rfl () [] trivial rfl rfl rfl rfl rfl rfl
  · exact absurd h1 (by simp [hv])

theorem refValid_c (fn arg : Int) : Pure Try.prog 31 [.agg [.int .u8 fn, .int .i32 arg]] (.t (.s (.bool (refValidS fn)))) := by
  refine enter Try.func31 rfl Try.ntmps31 rfl rfl (fun φ w0 β0 F => ?_)
  refine c_run (tt := tt) (ct := []) tt_ok trivial ks31 [] 60 (by kernel_rfl) ?_
  exact fin_ret tt_ok (rs := [.tmp 2]) rfl rfl () [] trivial rfl rfl rfl rfl rfl rfl
def sp31 : List TV → Option (Prop × FV)
  | [.agg [.int .u8 fn, .int .i32 _]] => some (True, .t (.s (.bool (refValidS fn))))
  | _ => none
theorem ce31 : CEok Try.prog 31 sp31 := ⟨cal31, fun args p v h hp => by
  unfold sp31 at h; split at h
  · cases h; exact refValid_c _ _
  · cases h⟩

/-- The reference's encode. -/
theorem enc_c : ∀ (n : Nat) (fn v : Int), EncOk n v → n ≤ 1000 → TriS Try.prog 32 [.s (.int .i64 fn), .s (.int .i64 v)] []
    (γ := Nat) (fun c => (encF n fn v).length ≤ c) (fun c => .t (.s (.sl 0 0 (encF n fn v).length c))) (fun c => [.own 5 1 c (bytesI (encF n fn v))])
  | n, fn, v, ho, hn => by
    refine enter Try.func32 rfl Try.ntmps32 rfl rfl (fun φ w0 β0 F => ?_)
    refine c_run (tt := tt) (ct := []) tt_ok trivial ks32 [] 60 (by kernel_rfl) ?_
    refine ⟨fun h1 => ?_, fun h1 => ⟨fun h2 => ?_, fun h2 => ?_⟩⟩
    · simp only [ge_iff_le, decide_eq_true_eq] at h1
      match n, ho with
      | 0, ho => exact absurd ho.2 (by omega)
      | n + 1, ho =>
        have ih := enc_c n 2 _ (ho.1 h1) (by omega)
        have hl := encF_length n 2 (IntKind.i64.wrap (v.tdiv 16))
        have hp : encF (n + 1) fn v = encF n 2 (IntKind.i64.wrap (v.tdiv 16)) ++ [encB fn v] := by simp only [encF, ge_iff_le, if_pos h1]
        generalize encF n 2 (IntKind.i64.wrap (v.tdiv 16)) = l at ih hl hp
        rw [hp]
        refine l_call ih cal32 [] rfl rfl rfl trivial rfl (whenB_spec rfl) rfl rfl rfl rfl rfl rfl (fun c hc => ?_)
        refine l_run (tt := tt) (ct := []) tt_ok trivial ks32 [] 60 rfl (by kernel_rfl) ?_
        refine ⟨fun h2 => ?_, fun h2 => ?_⟩
        · simp only [decide_eq_true_eq] at h2; omega
        refine ⟨⟨rfl, by simp, Nat.le_refl _, one_u rfl, by simp [maxLen]; omega, by simp; omega⟩, fun c1 hc1 hc2 => ?_⟩
        exact fin_ret tt_ok (rs := [.tmp 4]) rfl rfl c1 [2] (by simpa using hc1) (by simp [packF, FV.rn, TV.rn, SV.rn]) (by rw [bytesI_append]; rfl) rfl rfl rfl rfl
    · simp only [ge_iff_le, decide_eq_true_eq, decide_eq_false_iff_not] at h1 h2
      match n, ho with
      | 0, ho => exact absurd ho.1 (by omega)
      | n + 1, ho =>
        have ih := enc_c n 6 _ (ho.2 h2) (by omega)
        have hl := encF_length n 6 (IntKind.i64.wrap ((IntKind.i64.wrap (-1 - v)).tdiv 16))
        have hp : encF (n + 1) fn v = encF n 6 (IntKind.i64.wrap ((IntKind.i64.wrap (-1 - v)).tdiv 16)) ++ [encB fn v] := by simp only [encF, ge_iff_le, if_neg h1, if_pos h2]
        generalize encF n 6 (IntKind.i64.wrap ((IntKind.i64.wrap (-1 - v)).tdiv 16)) = l at ih hl hp
        rw [hp]
        refine l_call ih cal32 [] rfl rfl rfl trivial rfl (whenB_spec rfl) rfl rfl rfl rfl rfl rfl (fun c hc => ?_)
        refine l_run (tt := tt) (ct := []) tt_ok trivial ks32 [] 60 rfl (by kernel_rfl) ?_
        refine ⟨⟨rfl, by simp, Nat.le_refl _, one_u rfl, by simp [maxLen]; omega, by simp; omega⟩, fun c1 hc1 hc2 => ?_⟩
        exact fin_ret tt_ok (rs := [.tmp 4]) rfl rfl c1 [2] (by simpa using hc1) (by simp [packF, FV.rn, TV.rn, SV.rn]) (by rw [bytesI_append]; rfl) rfl rfl rfl rfl
    · simp only [ge_iff_le, decide_eq_false_iff_not] at h1 h2
      have hp : encF n fn v = [encB fn v] := by
        cases n with
        | zero => rfl
        | succ n => simp only [encF, ge_iff_le, if_neg h1, if_neg h2]
      rw [hp]
      refine ⟨⟨Nat.le_refl _, one_u rfl, by decide, by decide⟩, fun c1 hc1 hc2 => ?_⟩
      exact fin_ret tt_ok (rs := [.tmp 4]) rfl rfl c1 [2] (by simpa using hc1) rfl rfl rfl rfl rfl rfl

abbrev ct4 : CT := [(29, sp29), (28, sp28), (26, sp26), (13, sp13), (15, sp15), (31, sp31)]
theorem ct4_ok : CTok Try.prog ct4 := ⟨ce29, ce28, ce26, ce13, ce15, ce31, trivial⟩

theorem RefPut_c (fn v : Int) (hv : refValidS fn = true) (ho : EncOk 7 (IntKind.i64.wrap v)) : TriS Try.prog 16 [.agg [.int .u8 fn, .int .i32 v]] []
    (γ := Nat) (fun c => (refPutS fn v).length ≤ c) (fun c => .tup [.s (.sl 0 0 (refPutS fn v).length c), .s (.int .i64 0)]) (fun c => [.own 5 1 c (bytesI (refPutS fn v))]) := by
  refine enter Try.func16 rfl Try.ntmps16 rfl rfl (fun φ w0 β0 F => ?_)
  refine c_run (tt := tt) (ct := ct4) tt_ok ct4_ok ks16 [] 60 (by kernel_rfl) ?_
  refine ⟨trivial, fun h1 => ?_, fun h1 => ?_⟩
  · exact absurd h1 (by simp [hv])
  · refine l_call (enc_c 7 (IntKind.i64.wrap fn) (IntKind.i64.wrap v) ho (by decide)) cal32 [] rfl rfl rfl trivial rfl (whenB_spec rfl) rfl rfl rfl rfl rfl rfl (fun c hc => ?_)
    refine l_run (tt := tt) (ct := ct4) tt_ok ct4_ok ks16 [] 60 rfl (by kernel_rfl) ?_
    exact fin_ret tt_ok (rs := [.tmp 2, .tmp 3]) rfl rfl c [1] hc rfl rfl rfl rfl rfl rfl
theorem RefPut_bad (fn v : Int) (hv : refValidS fn = false) : Pure Try.prog 16 [.agg [.int .u8 fn, .int .i32 v]] (.tup [.s (.raw (.slice none 0 0)), .s (.int .i64 2)]) := by
  refine enter Try.func16 rfl Try.ntmps16 rfl rfl (fun φ w0 β0 F => ?_)
  refine c_run (tt := tt) (ct := ct4) tt_ok ct4_ok ks16 [] 60 (by kernel_rfl) ?_
  refine ⟨trivial, fun h1 => ?_, fun h1 => ?_⟩
  · exact fin_ret tt_ok (rs := [.tmp 2, .tmp 3]) rfl rfl () [] trivial rfl rfl rfl rfl rfl rfl
  · exact absurd h1 (by simp [hv])

theorem RefLen_all (fn v : Int) (ho : EncOk 7 (IntKind.i64.wrap v)) : Pure Try.prog 17 [.agg [.int .u8 fn, .int .i32 v]] (.t (.s (.int .i64 (refLenS fn v)))) := by
  refine enter Try.func17 rfl Try.ntmps17 rfl rfl (fun φ w0 β0 F => ?_)
  refine c_run (tt := tt) (ct := ct4) tt_ok ct4_ok ks17 [] 60 (by kernel_rfl) ?_
  unfold refLenS
  split
  · rename_i hv
    refine l_call (RefPut_c fn v hv ho) cal16 [] rfl rfl rfl trivial rfl (whenB_spec rfl) rfl rfl rfl rfl rfl rfl (fun c hc => ?_)
    refine l_run (tt := tt) (ct := ct4) tt_ok ct4_ok ks17 [] 60 rfl (by kernel_rfl) ?_
    exact fin_ret tt_ok (rs := [.tmp 2]) rfl rfl () [] trivial rfl rfl rfl rfl rfl rfl
  · rename_i hv
    refine l_call (RefPut_bad fn v (by simpa using hv)) cal16 [] rfl rfl rfl trivial rfl (whenB_spec rfl) rfl rfl rfl rfl rfl rfl (fun c hc => ?_)
    refine l_run (tt := tt) (ct := ct4) tt_ok ct4_ok ks17 [] 60 rfl (by kernel_rfl) ?_
    exact fin_ret tt_ok (rs := [.tmp 2]) rfl rfl () [] trivial rfl rfl rfl rfl rfl rfl
def sp17 : List TV → Option (Prop × FV)
  | [.agg [.int .u8 fn, .int .i32 v]] => some (EncOk 7 (IntKind.i64.wrap v), .t (.s (.int .i64 (refLenS fn v))))
  | _ => none
theorem ce17 : CEok Try.prog 17 sp17 := ⟨cal17, fun args p v h hp => by
  unfold sp17 at h; split at h
  · cases h; exact RefLen_all _ _ hp
  · cases h⟩
abbrev ct5 : CT := [(29, sp29), (28, sp28), (26, sp26), (13, sp13), (15, sp15), (31, sp31), (17, sp17)]
theorem ct5_ok : CTok Try.prog ct5 := ⟨ce29, ce28, ce26, ce13, ce15, ce31, ce17, trivial⟩

/-- put onto bytes that the caller owns. -/
theorem putOwn_c : ∀ (n : Nat) (fn v : Int) (l : List Int) (cap : Nat), PutOk n v → l.length + n ≤ 100000 → TriS Try.prog 30 [.s (.sl 0 0 l.length cap), .s (.int .u8 fn), .s (.int .i32 v)] [.own 5 1 cap (bytesI l)]
    (γ := Nat) (fun c => (l ++ putF n fn v).length ≤ c) (fun c => .t (.s (.sl 1 0 (l ++ putF n fn v).length c))) (fun c => [.dead, .own 5 1 c (bytesI (l ++ putF n fn v))])
  | n, fn, v, l, cap, ho, hn => by
    refine enter Try.func30 rfl Try.ntmps30 rfl rfl (fun φ w0 β0 F => ?_)
    refine c_run (tt := tt) (ct := []) tt_ok trivial ks30 [] 60 (by kernel_rfl) ?_
    refine ⟨fun h1 => ?_, fun h1 => ⟨fun h2 => ?_, fun h2 => ?_⟩⟩
    · simp only [decide_eq_true_eq] at h1
      match n, ho with
      | 0, ho => exact absurd ho.1 (by omega)
      | n + 1, ho =>
        have ih := putOwn_c n 6 _ l cap (ho.1 h1) (by omega)
        have hl := putF_length n 6 ((notI .i32 v).fdiv (2 ^ min 4 IntKind.i32.bits))
        have hp : l ++ putF (n + 1) fn v = (l ++ putF n 6 ((notI .i32 v).fdiv (2 ^ min 4 IntKind.i32.bits))) ++ [lastB fn v] := by simp only [putF, if_pos h1, List.append_assoc]
        have hll : (l ++ putF n 6 ((notI .i32 v).fdiv (2 ^ min 4 IntKind.i32.bits))).length ≤ 100002 := by simp; omega
        generalize l ++ putF n 6 ((notI .i32 v).fdiv (2 ^ min 4 IntKind.i32.bits)) = q at ih hl hp hll
        rw [hp]
        refine l_call ih cal30 [0] rfl rfl rfl trivial rfl (whenB_spec rfl) rfl rfl rfl rfl rfl rfl (fun c hc => ?_)
        refine l_run (tt := tt) (ct := []) tt_ok trivial ks30 [] 60 rfl (by kernel_rfl) ?_
        refine ⟨⟨rfl, by simp, Nat.le_refl _, one_u rfl, by simp [maxLen]; omega, by simp; omega⟩, fun c1 hc1 hc2 => ?_⟩
        exact fin_ret tt_ok (rs := [.tmp 6]) rfl rfl c1 [0, 3] (by simpa using hc1) (by simp [packF, FV.rn, TV.rn, SV.rn]) (by rw [bytesI_append]; rfl) rfl rfl rfl rfl
    · simp only [decide_eq_true_eq, decide_eq_false_iff_not] at h1 h2
      match n, ho with
      | 0, ho => exact absurd ho.2 (by omega)
      | n + 1, ho =>
        have ih := putOwn_c n 2 _ l cap (ho.2 h2) (by omega)
        have hl := putF_length n 2 (v.fdiv (2 ^ min 4 IntKind.i32.bits))
        have hp : l ++ putF (n + 1) fn v = (l ++ putF n 2 (v.fdiv (2 ^ min 4 IntKind.i32.bits))) ++ [lastB fn v] := by simp only [putF, if_neg h1, if_pos h2, List.append_assoc]
        have hll : (l ++ putF n 2 (v.fdiv (2 ^ min 4 IntKind.i32.bits))).length ≤ 100002 := by simp; omega
        generalize l ++ putF n 2 (v.fdiv (2 ^ min 4 IntKind.i32.bits)) = q at ih hl hp hll
        rw [hp]
        refine l_call ih cal30 [0] rfl rfl rfl trivial rfl (whenB_spec rfl) rfl rfl rfl rfl rfl rfl (fun c hc => ?_)
        refine l_run (tt := tt) (ct := []) tt_ok trivial ks30 [] 60 rfl (by kernel_rfl) ?_
        refine ⟨⟨rfl, by simp, Nat.le_refl _, one_u rfl, by simp [maxLen]; omega, by simp; omega⟩, fun c1 hc1 hc2 => ?_⟩
        exact fin_ret tt_ok (rs := [.tmp 6]) rfl rfl c1 [0, 3] (by simpa using hc1) (by simp [packF, FV.rn, TV.rn, SV.rn]) (by rw [bytesI_append]; rfl) rfl rfl rfl rfl
    · simp only [decide_eq_false_iff_not] at h1 h2
      have hp : putF n fn v = [lastB fn v] := by
        cases n with
        | zero => rfl
        | succ n => simp only [putF, if_neg h1, if_neg h2]
      rw [hp]
      refine ⟨⟨rfl, by simp, Nat.le_refl _, one_u rfl, by simp [maxLen]; omega, by simp; omega⟩, fun c1 hc1 hc2 => ?_⟩
      exact fin_ret tt_ok (rs := [.tmp 6]) rfl rfl c1 [0, 2] (by simpa using hc1) (by simp [packF, FV.rn, TV.rn, SV.rn]) (by rw [bytesI_append]; rfl) rfl rfl rfl rfl
end Go.Proofs

namespace Go.Proofs
open Go Go.Sx
set_option maxRecDepth 10000

theorem Put_all (fn v : Int) (ho : PutOk 7 v) : TriS Try.prog 14 [.agg [.int .u8 fn, .int .i32 v]] []
    (γ := Nat) (fun c => (putS fn v).length ≤ c) (fun c => .tup [.s (.sl 0 0 (putS fn v).length c), .s (.int .i64 (putE fn))]) (fun c => [.own 5 1 c (bytesI (putS fn v))]) := by
  unfold putS putE
  split
  · exact Put_c 7 fn v (by assumption) ho (by decide)
  · rename_i hv
    refine enter Try.func14 rfl Try.ntmps14 rfl rfl (fun φ w0 β0 F => ?_)
    refine c_run (tt := tt) (ct := ct0) tt_ok ct0_ok ks14 [] 60 (by kernel_rfl) ?_
    refine ⟨trivial, fun h1 => ?_, fun h1 => ?_⟩
    · refine WpE.into (nilSlot 2 5 1 rfl) ?_
      exact fin_ret tt_ok (rs := [.tmp 2, .tmp 3]) rfl rfl 0 [1] (Nat.le_refl _) rfl rfl rfl rfl rfl rfl
    · exact absurd h1 (by simp [hv])
theorem RefPut_all (fn v : Int) (ho : EncOk 7 (IntKind.i64.wrap v)) : TriS Try.prog 16 [.agg [.int .u8 fn, .int .i32 v]] []
    (γ := Nat) (fun c => (rputS fn v).length ≤ c) (fun c => .tup [.s (.sl 0 0 (rputS fn v).length c), .s (.int .i64 (rputE fn))]) (fun c => [.own 5 1 c (bytesI (rputS fn v))]) := by
  unfold rputS rputE
  split
  · exact RefPut_c fn v (by assumption) ho
  · rename_i hv
    refine enter Try.func16 rfl Try.ntmps16 rfl rfl (fun φ w0 β0 F => ?_)
    refine c_run (tt := tt) (ct := ct4) tt_ok ct4_ok ks16 [] 60 (by kernel_rfl) ?_
    refine ⟨trivial, fun h1 => ?_, fun h1 => ?_⟩
    · refine WpE.into (nilSlot 2 5 1 rfl) ?_
      exact fin_ret tt_ok (rs := [.tmp 2, .tmp 3]) rfl rfl 0 [1] (Nat.le_refl _) rfl rfl rfl rfl rfl rfl
    · exact absurd h1 (by simp [hv])

theorem Pad_all (fn v n : Int) (hn : -9223372036854775808 ≤ n ∧ n ≤ 9223372036854775807) (ho : PutOk 7 v) : TriS Try.prog 18 [.agg [.int .u8 fn, .int .i32 v], .s (.int .i64 n)] []
    (γ := Nat) (fun c => (padS fn v n).length ≤ c) (fun c => .tup [.s (.sl 0 0 (padS fn v n).length c), .s (.int .i64 (padE fn v n))]) (fun c => [.own 5 1 c (bytesI (padS fn v n))]) := by
  refine enter Try.func18 rfl Try.ntmps18 rfl rfl (fun φ w0 β0 F => ?_)
  refine c_run (tt := tt) (ct := ct3) tt_ok ct3_ok ks18 [] 60 (by kernel_rfl) ?_
  have hlen := putF_length 7 fn v
  refine ⟨trivial, fun h1 => ?_, fun h1 => ⟨ho, fun h2 => ?_, fun h2 => ⟨fun h3 => ?_, fun h3 => ?_⟩⟩⟩
  · have hv : validS fn = false := by simpa using h1
    have e1 : padE fn v n = 2 := by simp [padE, hv]
    have e2 : padS fn v n = [] := by simp [padS, e1]
    rw [e1, e2]
    refine WpE.into (nilSlot 4 5 1 rfl) ?_
    exact fin_ret tt_ok (rs := [.tmp 4, .tmp 5]) rfl rfl 0 [1] (Nat.le_refl _) rfl rfl rfl rfl rfl rfl
  all_goals
    have hv : validS fn = true := by simpa using h1
    simp only [lenS, hv, if_true, decide_eq_true_eq, decide_eq_false_iff_not] at h2
  · have e1 : padE fn v n = 4 := by simp [padE, hv, h2]
    have e2 : padS fn v n = [] := by simp [padS, e1]
    rw [e1, e2]
    refine WpE.into (nilSlot 4 5 1 rfl) ?_
    exact fin_ret tt_ok (rs := [.tmp 4, .tmp 5]) rfl rfl 0 [1] (Nat.le_refl _) rfl rfl rfl rfl rfl rfl
  · simp only [gt_iff_lt, decide_eq_true_eq] at h3
    have e1 : padE fn v n = 3 := by simp [padE, hv, h2, h3]
    have e2 : padS fn v n = [] := by simp [padS, e1]
    rw [e1, e2]
    refine WpE.into (nilSlot 4 5 1 rfl) ?_
    exact fin_ret tt_ok (rs := [.tmp 4, .tmp 5]) rfl rfl 0 [1] (Nat.le_refl _) rfl rfl rfl rfl rfl rfl
  · simp only [gt_iff_lt, decide_eq_false_iff_not] at h3
    have e1 : padE fn v n = 0 := by simp [padE, hv, h2, h3]
    have e2 : padS fn v n = List.replicate (n - ((putF 7 fn v).length : Int)).toNat 32 ++ putF 7 fn v := by simp [padS, e1]
    rw [e1, e2]
    refine ⟨ho, ?_⟩
    have hm : IntKind.i64.wrap (n - lenS fn v) = (((n - ((putF 7 fn v).length : Int)).toNat : Nat) : Int) := by
      simp only [lenS, hv, if_true]
      rw [wrap64] <;> omega
    generalize hmm : (n - ((putF 7 fn v).length : Int)).toNat = m at hm
    have hm16 : m ≤ 16 := by omega
    show WpC _ _ _ _ _
    rw [hm]
    refine WpC.into (nilSlot 6 5 1 rfl) ?_
    refine c_loop (α := Nat × Nat) (fun x => x.1 ≤ m ∧ x.1 ≤ x.2) (fun x => m - x.1)
      (fun x => [(2, .t (.s (.loc 0 0)), none), (6, .t (.s (.sl 1 0 (List.replicate x.1 (32 : Int)).length x.2)), none), (22, .t (.s (.int .i64 (m : Int))), none), (23, .t (.s (.int .i64 (x.1 : Int))), none)])
      (fun x => [.blk 26 [.int .u8 fn, .int .i32 v], .own 5 1 x.2 (bytesI (List.replicate x.1 32))]) (0, 0) ⟨Nat.zero_le _, Nat.le_refl _⟩ ?_ ?_
    · exact into [0, 1] ⟨⟨_, rfl, rfl⟩, ⟨_, rfl, rfl⟩, ⟨_, rfl, rfl⟩, ⟨_, rfl, rfl⟩, trivial⟩ ⟨_, rfl, rfl⟩ rfl rfl rfl rfl
    · rintro ⟨i, c⟩ ⟨hi, hic⟩
      refine c_run' (tt := tt) (ct := ct3) tt_ok ct3_ok ks18 [] 60 (by kernel_rfl) (by kernel_rfl) ?_
      refine ⟨fun h4 => ?_, fun h4 => ?_⟩
      · simp only [decide_eq_true_eq] at h4
        have hi' : i < m := by omega
        refine ⟨⟨rfl, by simp, Nat.le_refl _, one_u rfl, by simp [maxLen]; omega, by simp; omega⟩, fun c1 hc1 hc2 => ?_⟩
        refine e_again (i + 1, c1) ⟨hi', by simpa using hc1⟩ (by simp; omega) (into [0, 3] ⟨⟨_, rfl, rfl⟩, ⟨_, rfl, ?_⟩, ⟨_, rfl, rfl⟩, ⟨_, rfl, fvi (wrapSucc (by omega))⟩, trivial⟩ ⟨_, rfl, ?_⟩ rfl rfl rfl rfl)
        · simp [FV.rn, TV.rn, SV.rn]
        · simp only [← bytesI_rep]; rfl
      · simp only [decide_eq_false_iff_not] at h4
        have him : i = m := by have : i ≤ m := hi; omega
        subst him
        refine l_call (putOwn_c 7 fn v (List.replicate i 32) c ho (by simp; omega)) cal30 [1] rfl rfl rfl trivial rfl (whenB_spec rfl) rfl rfl rfl rfl rfl rfl (fun c1 hc1 => ?_)
        refine l_run (tt := tt) (ct := ct3) tt_ok ct3_ok ks18 [] 60 rfl (by kernel_rfl) ?_
        exact fin_ret tt_ok (rs := [.tmp 4, .tmp 5]) rfl rfl c1 [2] hc1 rfl rfl rfl rfl rfl rfl
end Go.Proofs

namespace Go.Proofs
open Go Go.Sx
set_option maxRecDepth 10000

theorem fix_c (fn v : Int) : Pure Try.prog 20 [.agg [.int .u8 fn, .int .i32 v]] (.t (.agg [.int .u8 (fixS fn), .int .i32 v])) := by
  refine enter Try.func20 rfl Try.ntmps20 rfl rfl (fun φ w0 β0 F => ?_)
  refine c_run (tt := tt) (ct := []) tt_ok trivial ks20 [] 60 (by kernel_rfl) ?_
  refine ⟨fun h1 => ?_, fun h1 => ?_⟩
  · have h : fn.tmod 16 = 2 ∨ fn.tmod 16 = 6 := by
      simp at h1
      exact h1
    rw [fixS, if_pos h]
    exact fin_ret tt_ok (rs := [.cell 2 26]) rfl rfl () [] trivial rfl rfl rfl rfl rfl rfl
  · have h : ¬ (fn.tmod 16 = 2 ∨ fn.tmod 16 = 6) := by
      simp at h1
      rintro (h2 | h2)
      · exact h1.1 h2
      · exact h1.2 h2
    rw [fixS, if_neg h]
    exact fin_ret tt_ok (rs := [.cell 2 26]) rfl rfl () [] trivial rfl rfl rfl rfl rfl rfl
def sp20 : List TV → Option (Prop × FV)
  | [.agg [.int .u8 fn, .int .i32 v]] => some (True, .t (.agg [.int .u8 (fixS fn), .int .i32 v]))
  | _ => none
theorem ce20 : CEok Try.prog 20 sp20 := ⟨cal20, fun args p v h hp => by
  unfold sp20 at h; split at h
  · cases h; exact fix_c _ _
  · cases h⟩
abbrev ct7 : CT := [(29, sp29), (28, sp28), (26, sp26), (13, sp13), (15, sp15), (31, sp31), (17, sp17), (20, sp20)]
theorem ct7_ok : CTok Try.prog ct7 := ⟨ce29, ce28, ce26, ce13, ce15, ce31, ce17, ce20, trivial⟩

end Go.Proofs
