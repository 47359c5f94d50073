/- ReadPart: the law returns true. -/
import Derived.Test.YtheeehbaholjmaaFRPart2
namespace Go.Proofs.Ytheeehbaholjmaa.Sim
open Go
set_option maxRecDepth 100000
set_option maxHeartbeats 4000000
set_option linter.unusedSimpArgs false
set_option linter.unusedVariables false
theorem lawFnExactReadPart (z : ByteArray) (w : z.size ≤ 140737488351232) : Fn Try.prog 7 [.sc (.string z)] (.sc (.bool true)) := by
  refine Fn.run 29 [.tmp 2] Try.func7 rfl rfl rfl rfl (by simp) (flats_cons (.sc _) flats_nil) (.sc _) ?_
  simp -implicitDefEqProofs only [↓w_seq, ↓w_region, ↓ops_cons, ↓g_assign, ↓ops_nil, ev_const, of_bool, ↓g_move, ↓g_len, Try.underlying9, Nat.reduceLT, ev_tab, ne_eq, reduceCtorEq, not_false_eq_true, upd_ne, par0, upd_eq, len_str, ↓g_binOp, of_int, ↓w_cond, ↓w_ret, ret_one, ↓w_skip, onS_some, b_gtr, onB_dec]
  split
  · trivial
  · have hz : z.size ≤ 1000000000 := by omega
    obtain ⟨i, k1, b1, h1, q1, _, l1⟩ := rv_ex z 0
    obtain ⟨t, k2, b2, h2, q2, _, l2⟩ := rv_ex z k1
    obtain ⟨f, k3, b3, h3, q3, _, l3⟩ := rv_ex z k2
    obtain ⟨d, k4, b4, h4, q5, q4, l4⟩ := rs_ex z k3
    by_cases hc : b1 = true ∧ b2 = true ∧ b3 = true ∧ b4 = true ∧ (okPc i t f d ∧ d.size ≤ 1000) ∧ ptT i t f d = z
    · obtain ⟨e1, e2, e3, e4, hp, he⟩ := hc
      have hk : k4 = z.size := by
        rw [← he, ptT_size, l4 e4, l3 e3, l2 e2, l1 e1]
        omega
      have hS := rpOkS z hz i t f k1 k2 k3 k4 d b1 b2 b3 b4 h1 q1 h2 q2 h3 q3 h4 q4 e1 e2 e3 e4 hp he hk
      have hI := rpOkI z hz i t f k1 k2 k3 k4 d b1 b2 b3 b4 h1 q1 h2 q2 h3 q3 h4 q4 e1 e2 e3 e4 hp he
      have hE := eqPartS i t f d
      unfold prt at hS hI hE
      refine call1 (by simp -implicitDefEqProofs only [List.map_cons, Nat.reduceLT, ev_tab, upd_eq, List.map_nil] <;> rfl) hS ?_
      simp -implicitDefEqProofs only [↓ops_cons, ↓g_move, ↓g_extract, Nat.reduceLT, ev_tab, upd_eq, ext_0, ne_eq, Nat.reduceEqDiff, not_false_eq_true, upd_ne, ext_1, ↓g_alloc, zero27, Option.map_some, ↓g_store, ↓g_assign, ↓ops_nil, ↓w_seq, ↓w_region, reduceCtorEq, par0, alK_some, List.all_cons, one_int, one_str, List.all_nil, Bool.and_self, List.length_nil, List.nil_append, wr_def, tyOk27, cells27, List.getElem?_cons_zero, wr_c, Nat.zero_add, List.length_cons, Nat.reduceAdd, Nat.le_refl, true_and, List.set_cons_zero, onS_ite, onS_some, cells_agg, and_self, ovr_m, ovr_n]
      refine call1 (by simp -implicitDefEqProofs only [List.map_cons, Nat.reduceLT, ev_tab, upd_eq, List.map_nil] <;> rfl) hI ?_
      simp -implicitDefEqProofs only [↓ops_cons, ↓g_move, ↓g_extract, Nat.reduceLT, ev_tab, upd_eq, ext_0, ne_eq, Nat.reduceEqDiff, not_false_eq_true, upd_ne, ext_1, ↓g_alloc, zero27, Option.map_some, ↓g_store, ↓g_assign, ↓ops_nil, ↓w_seq, ↓w_region, ↓g_load, rd_def, tyOk27, agg27, cells27, alK_some, List.all_cons, one_int, one_str, List.all_nil, Bool.and_self, List.length_cons, List.length_nil, Nat.zero_add, List.cons_append, List.nil_append, wr_def, List.getElem?_cons_succ, List.getElem?_cons_zero, wr_c, Nat.reduceAdd, Nat.le_refl, true_and, List.set_cons_succ, List.set_cons_zero, onS_ite, rd_aggc, List.drop_zero, List.take_succ_cons, List.take_zero, if_true, onS_some, cells_agg, and_self, ovr_m, ovr_n]
      refine call1 (by simp -implicitDefEqProofs only [List.map_cons, Nat.reduceLT, ev_tab, ne_eq, Nat.reduceEqDiff, not_false_eq_true, upd_ne, upd_eq, List.map_nil] <;> rfl) hE ?_
      simp -implicitDefEqProofs only [↓ops_cons, ↓g_unOp, Nat.reduceLT, ev_tab, upd_eq, u_not, Bool.not_true, Option.map_some, ↓g_move, onS_some, yielded_tab, dstAt_s, dstAt_0, ybv_some, boolOf_b, ↓g_guard_t, ne_eq, Nat.reduceEqDiff, not_false_eq_true, upd_ne, ↓g_binOp, Try.underlying4, v_neq, beq_self_eq_true, ↓g_pick, ev_const, of_bool, pick_b, Bool.false_eq_true, if_false, ↓ops_nil, ↓w_cond, ↓w_seq, ↓w_region, ↓g_assign, ↓w_ret, ret_one, ↓w_skip, onB_false]
    · have hS := rpNoS z hz i t f k1 k2 k3 k4 d b1 b2 b3 b4 h1 q1 h2 q2 h3 q3 h4 q4 hc
      have hI := rpNoI z hz i t f k1 k2 k3 k4 d b1 b2 b3 b4 h1 q1 h2 q2 h3 q3 h4 q4 hc
      have hE := eqPartS 0 0 0 ByteArray.empty
      unfold prt at hS hI hE
      refine call1 (by simp -implicitDefEqProofs only [List.map_cons, Nat.reduceLT, ev_tab, upd_eq, List.map_nil] <;> rfl) hS ?_
      simp -implicitDefEqProofs only [↓ops_cons, ↓g_move, ↓g_extract, Nat.reduceLT, ev_tab, upd_eq, ext_0, ne_eq, Nat.reduceEqDiff, not_false_eq_true, upd_ne, ext_1, ↓g_alloc, zero27, Option.map_some, ↓g_store, ↓g_assign, ↓ops_nil, ↓w_seq, ↓w_region, reduceCtorEq, par0, alK_some, List.all_cons, one_int, one_str, List.all_nil, Bool.and_self, List.length_nil, List.nil_append, wr_def, tyOk27, cells27, List.getElem?_cons_zero, wr_c, Nat.zero_add, List.length_cons, Nat.reduceAdd, Nat.le_refl, true_and, List.set_cons_zero, onS_ite, onS_some, cells_agg, and_self, ovr_m, ovr_n]
      refine call1 (by simp -implicitDefEqProofs only [List.map_cons, Nat.reduceLT, ev_tab, upd_eq, List.map_nil] <;> rfl) hI ?_
      simp -implicitDefEqProofs only [↓ops_cons, ↓g_move, ↓g_extract, Nat.reduceLT, ev_tab, upd_eq, ext_0, ne_eq, Nat.reduceEqDiff, not_false_eq_true, upd_ne, ext_1, ↓g_alloc, zero27, Option.map_some, ↓g_store, ↓g_assign, ↓ops_nil, ↓w_seq, ↓w_region, ↓g_load, rd_def, tyOk27, agg27, cells27, alK_some, List.all_cons, one_int, one_str, List.all_nil, Bool.and_self, List.length_cons, List.length_nil, Nat.zero_add, List.cons_append, List.nil_append, wr_def, List.getElem?_cons_succ, List.getElem?_cons_zero, wr_c, Nat.reduceAdd, Nat.le_refl, true_and, List.set_cons_succ, List.set_cons_zero, onS_ite, rd_aggc, List.drop_zero, List.take_succ_cons, List.take_zero, if_true, onS_some, cells_agg, and_self, ovr_m, ovr_n]
      refine call1 (by simp -implicitDefEqProofs only [List.map_cons, Nat.reduceLT, ev_tab, ne_eq, Nat.reduceEqDiff, not_false_eq_true, upd_ne, upd_eq, List.map_nil] <;> rfl) hE ?_
      simp -implicitDefEqProofs only [↓ops_cons, ↓g_unOp, Nat.reduceLT, ev_tab, upd_eq, u_not, Bool.not_true, Option.map_some, ↓g_move, onS_some, yielded_tab, dstAt_s, dstAt_0, ybv_some, boolOf_b, ↓g_guard_t, ne_eq, Nat.reduceEqDiff, not_false_eq_true, upd_ne, ↓g_binOp, Try.underlying4, v_neq, beq_self_eq_true, ↓g_pick, ev_const, of_bool, pick_b, Bool.false_eq_true, if_false, ↓ops_nil, ↓w_cond, ↓w_seq, ↓w_region, ↓g_assign, ↓w_ret, ret_one, ↓w_skip, onB_false]
end Go.Proofs.Ytheeehbaholjmaa.Sim

