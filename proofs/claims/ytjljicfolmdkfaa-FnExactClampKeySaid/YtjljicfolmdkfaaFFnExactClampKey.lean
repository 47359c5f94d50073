/- ClampKey: what the program and the reference return, and that the law returns true. -/
import Derived.Test.YtjljicfolmdkfaaS18
import Derived.Test.YtjljicfolmdkfaaChecked
namespace Go.Proofs.Ytjljicfolmdkfaa.Sim
open Go
set_option maxRecDepth 100000
set_option linter.unusedSimpArgs false
set_option linter.unusedVariables false
theorem tyOk5 : tyOk Try.prog 5 = true := by kernel_rfl
theorem agg5 : aggB Try.prog 5 = false := by kernel_rfl
theorem cells5 : Try.prog.cellsOf 5 = 1 := by kernel_rfl
theorem isU5 : isU8 Try.prog 5 = true := by kernel_rfl
def clampV (k : ByteArray) : ByteArray := if k.size = 32 then strOfNums (((nums k).set 0 (bits .and .u8 ((nums k).getD 0 0) 248)).set 31 (bits .or .u8 (bits .and .u8 (((nums k).set 0 (bits .and .u8 ((nums k).getD 0 0) 248)).getD 31 0) 127) 64)) else ByteArray.empty
theorem clampS (k : ByteArray) : Fn Try.prog 13 [.sc (.string k)] (.sc (.string (clampV k))) := by
  refine Fn.run 24 [.tmp 2] Try.func13 rfl rfl rfl rfl (by simp) (flats_cons (.sc _) flats_nil) (.sc _) ?_
  simp +decide only [↓w_seq, ↓w_skip, ↓w_ret, ↓w_exit, ↓w_block, ↓w_cond, ↓w_region, ↓ops_nil, ↓ops_cons, ↓g_move, ↓g_assign, ↓g_binOp, ↓g_unOp, ↓g_pick, ↓g_len, ↓g_index, ↓g_indexAddr, ↓g_slice, ↓g_convert, ↓g_load, ↓g_store, ↓g_extract, ↓g_nilCheck, ↓g_field, ↓g_fieldAddr, ↓g_call, ev_tab, ev_const, upd_eq, upd_ne, par0, par1, par2, par3, par4, par5, of_int, of_str, of_bool, len_str, len_arr, len_sl, idx_str, adr_sl, adr_arr, c_int, c_str, c_bytes, c_text, pick_b, onS_some, onS_ite, b_add, b_sub, b_mul, b_and, b_or, b_xor, b_eql, b_neq, b_lss, b_leq, b_gtr, b_geq, b_shl, b_shr, b_quo, b_rem, t_add, t_eql, t_neq, u_not, onB_true, onB_false, onB_dec, onB_not, ret_one, ret_two, ret_three, if_true, if_false, ite_true, ite_false, List.map_cons, List.map_nil, Option.map_some, Option.map_none, List.toList_toArray, rd_def, rd_ints, wr_def, wr_ints, at_def, at_ints, bytes_ints, bytesA_ints, ints_set, nums_len, List.length_nil, List.length_cons, List.length_set, List.length_append, List.nil_append, List.cons_append, List.getElem?_cons_zero, List.getElem?_cons_succ, List.set_cons_zero, List.set_cons_succ, List.drop_zero, List.take_length, Option.bind_some, true_and, and_true, Nat.zero_add, Nat.mul_one, Int.toNat_zero, Int.reduceToNat, Nat.le_refl, Try.underlying9, Try.underlying40, tyOk5, agg5, cells5, isU5]
  unfold clampV
  by_cases h : k.size = 32
  · simp [h, bytesA_ints, onS, List.take_of_length_le, nums_len]
  · have : ¬ ((k.size : Int) = 32) := by omega
    simp only [this, h, if_false]
    rfl
theorem clampI (k : ByteArray) : Fn Try.prog 14 [.sc (.string k)] (.sc (.string (clampV k))) := by
  refine Fn.run 23 [.tmp 2] Try.func14 rfl rfl rfl rfl (by simp) (flats_cons (.sc _) flats_nil) (.sc _) ?_
  simp +decide only [↓w_seq, ↓w_skip, ↓w_ret, ↓w_exit, ↓w_block, ↓w_cond, ↓w_region, ↓ops_nil, ↓ops_cons, ↓g_move, ↓g_assign, ↓g_binOp, ↓g_unOp, ↓g_pick, ↓g_len, ↓g_index, ↓g_indexAddr, ↓g_slice, ↓g_convert, ↓g_load, ↓g_store, ↓g_extract, ↓g_nilCheck, ↓g_field, ↓g_fieldAddr, ↓g_call, ev_tab, ev_const, upd_eq, upd_ne, par0, par1, par2, par3, par4, par5, of_int, of_str, of_bool, len_str, len_arr, len_sl, idx_str, adr_sl, adr_arr, c_int, c_str, c_bytes, c_text, pick_b, onS_some, onS_ite, b_add, b_sub, b_mul, b_and, b_or, b_xor, b_eql, b_neq, b_lss, b_leq, b_gtr, b_geq, b_shl, b_shr, b_quo, b_rem, t_add, t_eql, t_neq, u_not, onB_true, onB_false, onB_dec, onB_not, ret_one, ret_two, ret_three, if_true, if_false, ite_true, ite_false, List.map_cons, List.map_nil, Option.map_some, Option.map_none, List.toList_toArray, rd_def, rd_ints, wr_def, wr_ints, at_def, at_ints, bytes_ints, bytesA_ints, ints_set, nums_len, List.length_nil, List.length_cons, List.length_set, List.length_append, List.nil_append, List.cons_append, List.getElem?_cons_zero, List.getElem?_cons_succ, List.set_cons_zero, List.set_cons_succ, List.drop_zero, List.take_length, Option.bind_some, true_and, and_true, Nat.zero_add, Nat.mul_one, Int.toNat_zero, Int.reduceToNat, Nat.le_refl, Try.underlying9, Try.underlying40, tyOk5, agg5, cells5, isU5]
  unfold clampV
  by_cases h : k.size = 32
  · simp [h, bytesA_ints, onS, List.take_of_length_le, nums_len]
  · have : ¬ ((k.size : Int) = 32) := by omega
    simp only [this, h, if_false]
    rfl
theorem lawFnExactClampKey (k : ByteArray) (h : k.size ≤ 140737488351232) : Fn Try.prog 5 [.sc (.string k)] (.sc (.bool true)) := by
  refine Fn.run 15 [.tmp 2] Try.func5 rfl rfl rfl rfl (by simp) (flats_cons (.sc _) flats_nil) (.sc _) ?_
  simp +decide only [↓w_seq, ↓w_skip, ↓w_ret, ↓w_exit, ↓w_block, ↓w_cond, ↓w_region, ↓ops_nil, ↓ops_cons, ↓g_move, ↓g_assign, ↓g_binOp, ↓g_unOp, ↓g_pick, ↓g_len, ↓g_index, ↓g_indexAddr, ↓g_slice, ↓g_convert, ↓g_load, ↓g_store, ↓g_extract, ↓g_nilCheck, ↓g_field, ↓g_fieldAddr, ↓g_call, ev_tab, ev_const, upd_eq, upd_ne, par0, par1, par2, par3, par4, par5, of_int, of_str, of_bool, len_str, len_arr, len_sl, idx_str, adr_sl, adr_arr, c_int, c_str, c_bytes, c_text, pick_b, onS_some, onS_ite, b_add, b_sub, b_mul, b_and, b_or, b_xor, b_eql, b_neq, b_lss, b_leq, b_gtr, b_geq, b_shl, b_shr, b_quo, b_rem, t_add, t_eql, t_neq, u_not, onB_true, onB_false, onB_dec, onB_not, ret_one, ret_two, ret_three, if_true, if_false, ite_true, ite_false, List.map_cons, List.map_nil, Option.map_some, Option.map_none, List.toList_toArray, rd_def, rd_ints, wr_def, wr_ints, at_def, at_ints, bytes_ints, bytesA_ints, ints_set, nums_len, List.length_nil, List.length_cons, List.length_set, List.length_append, List.nil_append, List.cons_append, List.getElem?_cons_zero, List.getElem?_cons_succ, List.set_cons_zero, List.set_cons_succ, List.drop_zero, List.take_length, Option.bind_some, true_and, and_true, Nat.zero_add, Nat.mul_one, Int.toNat_zero, Int.reduceToNat, Nat.le_refl, Try.underlying9]
  split
  · trivial
  · refine callFn (clampS k) (callFn (clampI k) ?_)
    simp +decide only [↓w_seq, ↓w_skip, ↓w_ret, ↓w_exit, ↓w_block, ↓w_cond, ↓w_region, ↓ops_nil, ↓ops_cons, ↓g_move, ↓g_assign, ↓g_binOp, ↓g_unOp, ↓g_pick, ↓g_len, ↓g_index, ↓g_indexAddr, ↓g_slice, ↓g_convert, ↓g_load, ↓g_store, ↓g_extract, ↓g_nilCheck, ↓g_field, ↓g_fieldAddr, ↓g_call, ev_tab, ev_const, upd_eq, upd_ne, par0, par1, par2, par3, par4, par5, of_int, of_str, of_bool, len_str, len_arr, len_sl, idx_str, adr_sl, adr_arr, c_int, c_str, c_bytes, c_text, pick_b, onS_some, onS_ite, b_add, b_sub, b_mul, b_and, b_or, b_xor, b_eql, b_neq, b_lss, b_leq, b_gtr, b_geq, b_shl, b_shr, b_quo, b_rem, t_add, t_eql, t_neq, u_not, onB_true, onB_false, onB_dec, onB_not, ret_one, ret_two, ret_three, if_true, if_false, ite_true, ite_false, List.map_cons, List.map_nil, Option.map_some, Option.map_none, List.toList_toArray, rd_def, rd_ints, wr_def, wr_ints, at_def, at_ints, bytes_ints, bytesA_ints, ints_set, nums_len, List.length_nil, List.length_cons, List.length_set, List.length_append, List.nil_append, List.cons_append, List.getElem?_cons_zero, List.getElem?_cons_succ, List.set_cons_zero, List.set_cons_succ, List.drop_zero, List.take_length, Option.bind_some, true_and, and_true, Nat.zero_add, Nat.mul_one, Int.toNat_zero, Int.reduceToNat, Nat.le_refl, beq_self_eq_true, Bool.not_true]
end Go.Proofs.Ytjljicfolmdkfaa.Sim

