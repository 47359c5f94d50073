/- FnExactKeysOf: the law returns true. -/
import Derived.Test.YtjpgddjhfaoplaaFKeys
namespace Go.Proofs.Ytjpgddjhfaoplaa.Sim
open Go
set_option maxRecDepth 100000
set_option maxHeartbeats 4000000
set_option linter.unusedSimpArgs false
set_option linter.unusedVariables false
theorem lawFnExactKeysOf (z : ByteArray) (w : z.size ≤ 140737488351232) : Fn Try.prog 7 [.sc (.string z)] (.sc (.bool true)) := by
  refine Fn.run 29 [.tmp 2] Try.func7 rfl rfl rfl rfl (by simp) (flats_cons (.sc _) flats_nil) (.sc _) ?_
  simp -implicitDefEqProofs only [↓w_seq, ↓w_region, ↓ops_cons, ↓g_assign, ↓ops_nil, ev_const, of_bool, ↓g_move, ↓g_len, Try.underlying9, Nat.reduceLT, ev_tab, ne_eq, reduceCtorEq, not_false_eq_true, upd_ne, par0, upd_eq, len_str, ↓g_binOp, of_int, ↓w_cond, ↓w_ret, ret_one, ↓w_skip, onS_some, b_gtr, onB_dec]
  split
  · trivial
  · by_cases hz : z.size = 32
    · obtain ⟨z1, c1, h1⟩ := xlbV_pair z bKey bNo 32
      obtain ⟨z2, c2, h2⟩ := xlbV_pair z bIv bNo 12
      obtain ⟨z3, c3, h3⟩ := xlbV_pair z bSn bNo 32
      refine call1 (by simp -implicitDefEqProofs only [List.map_cons, Nat.reduceLT, ev_tab, upd_eq, List.map_nil] <;> rfl) (keysOfS z z1 z2 z3 c1 c2 c3 h1 h2 h3 hz) ?_
      simp -implicitDefEqProofs only [↓ops_cons, ↓g_move, ↓g_extract, Nat.reduceLT, ev_tab, upd_eq, ext_0, ne_eq, Nat.reduceEqDiff, not_false_eq_true, upd_ne, ext_1, ↓g_alloc, zero39, Option.map_some, ↓g_store, ↓g_assign, ↓ops_nil, ↓w_seq, ↓w_region, reduceCtorEq, par0, alK_some, List.all_cons, one_str, List.all_nil, Bool.and_self, List.length_nil, List.nil_append, wr_def, tyOk39, cells39, List.getElem?_cons_zero, wr_c, Nat.zero_add, List.length_cons, Nat.reduceAdd, Nat.le_refl, true_and, List.set_cons_zero, onS_ite, onS_some, cells_agg, and_self, over_m, over_n]
      refine call1 (by simp -implicitDefEqProofs only [List.map_cons, Nat.reduceLT, ev_tab, upd_eq, List.map_nil] <;> rfl) (keysOfI z z1 z2 z3 c1 c2 c3 h1 h2 h3 hz) ?_
      simp -implicitDefEqProofs only [↓ops_cons, ↓g_move, ↓g_extract, Nat.reduceLT, ev_tab, upd_eq, ext_0, ne_eq, Nat.reduceEqDiff, not_false_eq_true, upd_ne, ext_1, ↓g_alloc, zero39, Option.map_some, ↓g_store, ↓g_assign, ↓ops_nil, ↓w_seq, ↓w_region, ↓g_load, rd_def, tyOk39, agg39, cells39, alK_some, List.all_cons, one_str, List.all_nil, Bool.and_self, List.length_cons, List.length_nil, Nat.zero_add, List.cons_append, List.nil_append, wr_def, List.getElem?_cons_succ, List.getElem?_cons_zero, wr_c, Nat.reduceAdd, Nat.le_refl, true_and, List.set_cons_succ, List.set_cons_zero, onS_ite, rd_aggc, List.drop_zero, List.take_succ_cons, List.take_zero, if_true, onS_some, cells_agg, and_self, over_m, over_n]
      refine call1 (by simp -implicitDefEqProofs only [List.map_cons, Nat.reduceLT, ev_tab, ne_eq, Nat.reduceEqDiff, not_false_eq_true, upd_ne, upd_eq, List.map_nil] <;> rfl) (eqKeysS z1 z2 z3) ?_
      simp -implicitDefEqProofs only [↓ops_cons, ↓g_unOp, Nat.reduceLT, ev_tab, upd_eq, u_not, Bool.not_true, Option.map_some, ↓g_move, onS_some, yielded_tab, dstAt_s, dstAt_0, ybv_some, boolOf_b, ↓g_guard_t, ne_eq, Nat.reduceEqDiff, not_false_eq_true, upd_ne, ↓g_binOp, Try.underlying4, v_neq, beq_self_eq_true, ↓g_pick, ev_const, of_bool, pick_b, reduceCtorEq, if_false, ↓ops_nil, ↓w_cond, ↓w_seq, ↓w_region, ↓g_assign, ↓w_ret, ret_one, ↓w_skip, onB_false]
    · refine call1 (by simp -implicitDefEqProofs only [List.map_cons, Nat.reduceLT, ev_tab, upd_eq, List.map_nil] <;> rfl) (keysNoS z hz) ?_
      simp -implicitDefEqProofs only [↓ops_cons, ↓g_move, ↓g_extract, Nat.reduceLT, ev_tab, upd_eq, ext_0, ne_eq, Nat.reduceEqDiff, not_false_eq_true, upd_ne, ext_1, ↓g_alloc, zero39, Option.map_some, ↓g_store, ↓g_assign, ↓ops_nil, ↓w_seq, ↓w_region, reduceCtorEq, par0, alK_some, List.all_cons, one_str, List.all_nil, Bool.and_self, List.length_nil, List.nil_append, wr_def, tyOk39, cells39, List.getElem?_cons_zero, wr_c, Nat.zero_add, List.length_cons, Nat.reduceAdd, Nat.le_refl, true_and, List.set_cons_zero, onS_ite, onS_some, cells_agg, and_self, over_m, over_n]
      refine call1 (by simp -implicitDefEqProofs only [List.map_cons, Nat.reduceLT, ev_tab, upd_eq, List.map_nil] <;> rfl) (keysNoI z hz) ?_
      simp -implicitDefEqProofs only [↓ops_cons, ↓g_move, ↓g_extract, Nat.reduceLT, ev_tab, upd_eq, ext_0, ne_eq, Nat.reduceEqDiff, not_false_eq_true, upd_ne, ext_1, ↓g_alloc, zero39, Option.map_some, ↓g_store, ↓g_assign, ↓ops_nil, ↓w_seq, ↓w_region, ↓g_load, rd_def, tyOk39, agg39, cells39, alK_some, List.all_cons, one_str, List.all_nil, Bool.and_self, List.length_cons, List.length_nil, Nat.zero_add, List.cons_append, List.nil_append, wr_def, List.getElem?_cons_succ, List.getElem?_cons_zero, wr_c, Nat.reduceAdd, Nat.le_refl, true_and, List.set_cons_succ, List.set_cons_zero, onS_ite, rd_aggc, List.drop_zero, List.take_succ_cons, List.take_zero, if_true, onS_some, cells_agg, and_self, over_m, over_n]
      refine call1 (by simp -implicitDefEqProofs only [List.map_cons, Nat.reduceLT, ev_tab, ne_eq, Nat.reduceEqDiff, not_false_eq_true, upd_ne, upd_eq, List.map_nil] <;> rfl) (eqKeysS _ _ _) ?_
      simp -implicitDefEqProofs only [↓ops_cons, ↓g_unOp, Nat.reduceLT, ev_tab, upd_eq, u_not, Bool.not_true, Option.map_some, ↓g_move, onS_some, yielded_tab, dstAt_s, dstAt_0, ybv_some, boolOf_b, ↓g_guard_t, ne_eq, Nat.reduceEqDiff, not_false_eq_true, upd_ne, ↓g_binOp, Try.underlying4, v_neq, beq_self_eq_true, ↓g_pick, ev_const, of_bool, pick_b, reduceCtorEq, if_false, ↓ops_nil, ↓w_cond, ↓w_seq, ↓w_region, ↓g_assign, ↓w_ret, ret_one, ↓w_skip, onB_false]
end Go.Proofs.Ytjpgddjhfaoplaa.Sim

