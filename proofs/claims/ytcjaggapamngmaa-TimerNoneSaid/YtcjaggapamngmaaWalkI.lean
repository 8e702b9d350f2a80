/- Without a memory; TimerNone (printed by g32t.py). -/
import Derived.Test.YtcjaggapamngmaaWalkH

namespace Go.Proofs
open Go Go.Sx
set_option maxRecDepth 10000
noncomputable abbrev ctSz0 : CT := [(f_mem_Mem_Size, in_mem_Mem_Size [(f_mem_Mem_none, in_mem_Mem_none [])])]
theorem ctSz0_ok : CTok Try.prog ctSz0 := ⟨in_mem_Mem_Size_ok (ct := [(f_mem_Mem_none, in_mem_Mem_none [])]) ⟨in_mem_Mem_none_ok (ct := []) trivial, trivial⟩, trivial⟩
noncomputable abbrev ctNo : CT := [(f_timer_check, in_timer_check ctSz0), (f_mem_Mem_Size, in_mem_Mem_Size [(f_mem_Mem_none, in_mem_Mem_none [])])]
theorem ctNo_ok : CTok Try.prog ctNo := ⟨in_timer_check_ok ctSz0_ok, in_mem_Mem_Size_ok (ct := [(f_mem_Mem_none, in_mem_Mem_none [])]) ⟨in_mem_Mem_none_ok (ct := []) trivial, trivial⟩, trivial⟩
theorem TQueue_0 (k : Core) (d : Int) : Con Try.prog f_timer_Queue [.agg k.sv, .s (.loc 0 0), .s (.int .i64 d)] [.blk 33 [.raw (.slice none 0 0)]] (.ret (.tup [.s (.raw (.slice none 0 0)), .s (.int .i64 1)]) [.blk 33 [.raw (.slice none 0 0)]]) := by
  intro K hK
  refine enter fn_timer_Queue rfl nt_timer_Queue rfl rfl (fun φ w0 β0 F => ?_)
  refine c_run tt_ok ctNo_ok k_timer_Queue [] 60 (by kernel_rfl) ?_
  repeat' (first | (refine And.intro ?_ ?_) | (intro h; exact absurd h (by decide)) | (refine fun _ => ?_))
  all_goals exact fin_k tt_ok (rs := rs_timer_Queue) rfl rfl hK [0] rfl rfl rfl rfl rfl rfl
theorem TQueue_n (k : Core) (d : Int) : Con Try.prog f_timer_Queue [.agg k.sv, .s (.raw (.pointer none)), .s (.int .i64 d)] [] (.ret (.tup [.s (.raw (.slice none 0 0)), .s (.int .i64 1)]) []) := by
  intro K hK
  refine enter fn_timer_Queue rfl nt_timer_Queue rfl rfl (fun φ w0 β0 F => ?_)
  refine c_run tt_ok ctNo_ok k_timer_Queue [] 60 (by kernel_rfl) ?_
  repeat' (first | (refine And.intro ?_ ?_) | (intro h; exact absurd h (by decide)) | (refine fun _ => ?_))
  all_goals exact fin_k tt_ok (rs := rs_timer_Queue) rfl rfl hK [] rfl rfl rfl rfl rfl rfl
theorem TInsert_0 (k : Core) (w v d : Int) : Con Try.prog f_timer_Insert [.agg k.sv, .s (.loc 0 0), .s (.int .i32 w), .s (.int .i32 v), .s (.int .i64 d)] [.blk 33 [.raw (.slice none 0 0)]] (.ret (.tup [.agg Core.zero.sv, .s (.int .i64 1)]) [.blk 33 [.raw (.slice none 0 0)]]) := by
  intro K hK
  refine enter fn_timer_Insert rfl nt_timer_Insert rfl rfl (fun φ w0 β0 F => ?_)
  refine c_run tt_ok ctNo_ok k_timer_Insert [] 60 (by kernel_rfl) ?_
  repeat' (first | (refine And.intro ?_ ?_) | (intro h; exact absurd h (by decide)) | (refine fun _ => ?_))
  all_goals exact fin_k tt_ok (rs := rs_timer_Insert) rfl rfl hK [0] rfl rfl rfl rfl rfl rfl
theorem TInsert_n (k : Core) (w v d : Int) : Con Try.prog f_timer_Insert [.agg k.sv, .s (.raw (.pointer none)), .s (.int .i32 w), .s (.int .i32 v), .s (.int .i64 d)] [] (.ret (.tup [.agg Core.zero.sv, .s (.int .i64 1)]) []) := by
  intro K hK
  refine enter fn_timer_Insert rfl nt_timer_Insert rfl rfl (fun φ w0 β0 F => ?_)
  refine c_run tt_ok ctNo_ok k_timer_Insert [] 60 (by kernel_rfl) ?_
  repeat' (first | (refine And.intro ?_ ?_) | (intro h; exact absurd h (by decide)) | (refine fun _ => ?_))
  all_goals exact fin_k tt_ok (rs := rs_timer_Insert) rfl rfl hK [] rfl rfl rfl rfl rfl rfl
theorem TRemove_0 (k : Core) (w d : Int) : Con Try.prog f_timer_Remove [.agg k.sv, .s (.loc 0 0), .s (.int .i32 w), .s (.int .i64 d)] [.blk 33 [.raw (.slice none 0 0)]] (.ret (.tup [.agg Core.zero.sv, .s (.int .i64 1)]) [.blk 33 [.raw (.slice none 0 0)]]) := by
  intro K hK
  refine enter fn_timer_Remove rfl nt_timer_Remove rfl rfl (fun φ w0 β0 F => ?_)
  refine c_run tt_ok ctNo_ok k_timer_Remove [] 60 (by kernel_rfl) ?_
  repeat' (first | (refine And.intro ?_ ?_) | (intro h; exact absurd h (by decide)) | (refine fun _ => ?_))
  all_goals exact fin_k tt_ok (rs := rs_timer_Remove) rfl rfl hK [0] rfl rfl rfl rfl rfl rfl
theorem TRemove_n (k : Core) (w d : Int) : Con Try.prog f_timer_Remove [.agg k.sv, .s (.raw (.pointer none)), .s (.int .i32 w), .s (.int .i64 d)] [] (.ret (.tup [.agg Core.zero.sv, .s (.int .i64 1)]) []) := by
  intro K hK
  refine enter fn_timer_Remove rfl nt_timer_Remove rfl rfl (fun φ w0 β0 F => ?_)
  refine c_run tt_ok ctNo_ok k_timer_Remove [] 60 (by kernel_rfl) ?_
  repeat' (first | (refine And.intro ?_ ?_) | (intro h; exact absurd h (by decide)) | (refine fun _ => ?_))
  all_goals exact fin_k tt_ok (rs := rs_timer_Remove) rfl rfl hK [] rfl rfl rfl rfl rfl rfl
theorem TTick_0 (k : Core)  : Con Try.prog f_timer_Tick [.agg k.sv, .s (.loc 0 0)] [.blk 33 [.raw (.slice none 0 0)]] (.ret (.tup [.agg Core.zero.sv, .s (.int .i64 1)]) [.blk 33 [.raw (.slice none 0 0)]]) := by
  intro K hK
  refine enter fn_timer_Tick rfl nt_timer_Tick rfl rfl (fun φ w0 β0 F => ?_)
  refine c_run tt_ok ctNo_ok k_timer_Tick [] 60 (by kernel_rfl) ?_
  repeat' (first | (refine And.intro ?_ ?_) | (intro h; exact absurd h (by decide)) | (refine fun _ => ?_))
  all_goals exact fin_k tt_ok (rs := rs_timer_Tick) rfl rfl hK [0] rfl rfl rfl rfl rfl rfl
theorem TTick_n (k : Core)  : Con Try.prog f_timer_Tick [.agg k.sv, .s (.raw (.pointer none))] [] (.ret (.tup [.agg Core.zero.sv, .s (.int .i64 1)]) []) := by
  intro K hK
  refine enter fn_timer_Tick rfl nt_timer_Tick rfl rfl (fun φ w0 β0 F => ?_)
  refine c_run tt_ok ctNo_ok k_timer_Tick [] 60 (by kernel_rfl) ?_
  repeat' (first | (refine And.intro ?_ ?_) | (intro h; exact absurd h (by decide)) | (refine fun _ => ?_))
  all_goals exact fin_k tt_ok (rs := rs_timer_Tick) rfl rfl hK [] rfl rfl rfl rfl rfl rfl
theorem TExec_0 (k : Core) (f n : Int) : Con Try.prog f_timer_Exec [.agg k.sv, .s (.loc 0 0), .agg [.int .u8 f, .int .i32 n]] [.blk 33 [.raw (.slice none 0 0)]] (.ret (.tup [.agg Core.zero.sv, .s (.int .i64 1)]) [.blk 33 [.raw (.slice none 0 0)]]) := by
  intro K hK
  refine enter fn_timer_Exec rfl nt_timer_Exec rfl rfl (fun φ w0 β0 F => ?_)
  refine c_run tt_ok ctNo_ok k_timer_Exec [] 60 (by kernel_rfl) ?_
  repeat' (first | (refine And.intro ?_ ?_) | (intro h; exact absurd h (by decide)) | (refine fun _ => ?_))
  all_goals exact fin_k tt_ok (rs := rs_timer_Exec) rfl rfl hK [0] rfl rfl rfl rfl rfl rfl
theorem TExec_n (k : Core) (f n : Int) : Con Try.prog f_timer_Exec [.agg k.sv, .s (.raw (.pointer none)), .agg [.int .u8 f, .int .i32 n]] [] (.ret (.tup [.agg Core.zero.sv, .s (.int .i64 1)]) []) := by
  intro K hK
  refine enter fn_timer_Exec rfl nt_timer_Exec rfl rfl (fun φ w0 β0 F => ?_)
  refine c_run tt_ok ctNo_ok k_timer_Exec [] 60 (by kernel_rfl) ?_
  repeat' (first | (refine And.intro ?_ ?_) | (intro h; exact absurd h (by decide)) | (refine fun _ => ?_))
  all_goals exact fin_k tt_ok (rs := rs_timer_Exec) rfl rfl hK [] rfl rfl rfl rfl rfl rfl
noncomputable abbrev eQueueN : Ent := .st (conS (P := Try.prog) (f := f_timer_Queue) fun cargs σ0 => match cargs, σ0 with
  | [.agg cs, .s (.loc 0 0), .s (.int .i64 d)], [.blk 33 [.raw (.slice none 0 0)]] => withCore cs fun k hk => some ⟨.ret (.tup [.s (.raw (.slice none 0 0)), .s (.int .i64 1)]) [.blk 33 [.raw (.slice none 0 0)]], by subst hk; exact TQueue_0 k d⟩
  | [.agg cs, .s (.raw (.pointer none)), .s (.int .i64 d)], [] => withCore cs fun k hk => some ⟨.ret (.tup [.s (.raw (.slice none 0 0)), .s (.int .i64 1)]) [], by subst hk; exact TQueue_n k d⟩
  | _, _ => none)
noncomputable abbrev eInsertN : Ent := .st (conS (P := Try.prog) (f := f_timer_Insert) fun cargs σ0 => match cargs, σ0 with
  | [.agg cs, .s (.loc 0 0), .s (.int .i32 w), .s (.int .i32 v), .s (.int .i64 d)], [.blk 33 [.raw (.slice none 0 0)]] => withCore cs fun k hk => some ⟨.ret (.tup [.agg Core.zero.sv, .s (.int .i64 1)]) [.blk 33 [.raw (.slice none 0 0)]], by subst hk; exact TInsert_0 k w v d⟩
  | [.agg cs, .s (.raw (.pointer none)), .s (.int .i32 w), .s (.int .i32 v), .s (.int .i64 d)], [] => withCore cs fun k hk => some ⟨.ret (.tup [.agg Core.zero.sv, .s (.int .i64 1)]) [], by subst hk; exact TInsert_n k w v d⟩
  | _, _ => none)
noncomputable abbrev eRemoveN : Ent := .st (conS (P := Try.prog) (f := f_timer_Remove) fun cargs σ0 => match cargs, σ0 with
  | [.agg cs, .s (.loc 0 0), .s (.int .i32 w), .s (.int .i64 d)], [.blk 33 [.raw (.slice none 0 0)]] => withCore cs fun k hk => some ⟨.ret (.tup [.agg Core.zero.sv, .s (.int .i64 1)]) [.blk 33 [.raw (.slice none 0 0)]], by subst hk; exact TRemove_0 k w d⟩
  | [.agg cs, .s (.raw (.pointer none)), .s (.int .i32 w), .s (.int .i64 d)], [] => withCore cs fun k hk => some ⟨.ret (.tup [.agg Core.zero.sv, .s (.int .i64 1)]) [], by subst hk; exact TRemove_n k w d⟩
  | _, _ => none)
noncomputable abbrev eTickN : Ent := .st (conS (P := Try.prog) (f := f_timer_Tick) fun cargs σ0 => match cargs, σ0 with
  | [.agg cs, .s (.loc 0 0)], [.blk 33 [.raw (.slice none 0 0)]] => withCore cs fun k hk => some ⟨.ret (.tup [.agg Core.zero.sv, .s (.int .i64 1)]) [.blk 33 [.raw (.slice none 0 0)]], by subst hk; exact TTick_0 k ⟩
  | [.agg cs, .s (.raw (.pointer none))], [] => withCore cs fun k hk => some ⟨.ret (.tup [.agg Core.zero.sv, .s (.int .i64 1)]) [], by subst hk; exact TTick_n k ⟩
  | _, _ => none)
noncomputable abbrev eExecN : Ent := .st (conS (P := Try.prog) (f := f_timer_Exec) fun cargs σ0 => match cargs, σ0 with
  | [.agg cs, .s (.loc 0 0), .agg [.int .u8 f, .int .i32 n]], [.blk 33 [.raw (.slice none 0 0)]] => withCore cs fun k hk => some ⟨.ret (.tup [.agg Core.zero.sv, .s (.int .i64 1)]) [.blk 33 [.raw (.slice none 0 0)]], by subst hk; exact TExec_0 k f n⟩
  | [.agg cs, .s (.raw (.pointer none)), .agg [.int .u8 f, .int .i32 n]], [] => withCore cs fun k hk => some ⟨.ret (.tup [.agg Core.zero.sv, .s (.int .i64 1)]) [], by subst hk; exact TExec_n k f n⟩
  | _, _ => none)
noncomputable abbrev ctSn : CT := [(f_timer_Queue, eQueueN), (f_timer_Insert, eInsertN), (f_timer_Remove, eRemoveN), (f_timer_Tick, eTickN), (f_timer_Exec, eExecN), (f_l32_head, eHead)]
theorem ctSn_ok : CTok Try.prog ctSn := ⟨con_ok cal_timer_Queue _, con_ok cal_timer_Insert _, con_ok cal_timer_Remove _, con_ok cal_timer_Tick _, con_ok cal_timer_Exec _, con_ok cal_l32_head _, trivial⟩
set_option maxHeartbeats 4000000 in
theorem TimerNone_c (k : Core) (what a v pri fn n : Int) : Con Try.prog f_l32_TimerNone [.agg k.sv, .agg [.int .u8 what, .int .i32 a, .int .i32 v, .int .i64 pri, .int .u8 fn, .int .i32 n]] [] (.ret (.t (.s (.bool true))) []) := by
  intro K hK
  refine enter fn_l32_TimerNone rfl nt_l32_TimerNone rfl rfl (fun φ w0 β0 F => ?_)
  refine c_run tt_ok ctSn_ok k_l32_TimerNone [] 90 (by kernel_rfl) ?_
  refine c_unroll 2 ?_
  refine c_run' tt_ok ctSn_ok k_l32_TimerNone [] 120 (by kernel_rfl) (by kernel_rfl) ?_
  repeat' (first | (refine And.intro ?_ ?_) | (intro h; exact absurd h (by decide)) | (refine fun _ => ?_))
  all_goals exact fin_k tt_ok (rs := rs_l32_TimerNone) rfl rfl hK [] rfl rfl rfl rfl rfl rfl
end Go.Proofs
