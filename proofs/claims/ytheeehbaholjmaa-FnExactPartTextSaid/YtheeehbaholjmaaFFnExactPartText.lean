/- PartText: the law returns true. -/
import Derived.Test.YtheeehbaholjmaaFPartTxt
namespace Go.Proofs.Ytheeehbaholjmaa.Sim
open Go
set_option maxRecDepth 100000
set_option maxHeartbeats 4000000
set_option linter.unusedSimpArgs false
set_option linter.unusedVariables false
theorem lawFnExactPartText (i t f : Int) (z : ByteArray) (hz : z.size ≤ 9223372036854775807) : Fn Try.prog 3 [.agg [.sc (.int .i64 i), .sc (.int .i64 t), .sc (.int .i64 f), .sc (.string z)]] (.sc (.bool true)) := by
  refine Fn.run 33 [.tmp 2] Try.func3 rfl rfl rfl rfl (by simp) (flats_cons (prt_flat i t f z) flats_nil) (.sc _) ?_
  simp -implicitDefEqProofs only [↓w_seq, ↓w_region, ↓ops_cons, ↓g_box, Nat.reduceLT, ev_tab, par0, cells_agg, ↓g_assign, ↓ops_nil, ev_const, of_bool, of_int, ↓g_load, ne_eq, Nat.reduceEqDiff, not_false_eq_true, upd_ne, upd_eq, ↓g_move, alK_some, List.all_cons, one_int, one_str, List.all_nil, Bool.and_self, List.length_nil, List.nil_append, rd_def, tyOk23, agg23, cells23, List.getElem?_cons_zero, rd_aggc, Nat.zero_add, List.length_cons, Nat.reduceAdd, Nat.le_refl, List.drop_zero, List.take_succ_cons, List.take_zero, if_true, onS_some, true_and]
  refine call1 (by simp -implicitDefEqProofs only [List.map_cons, Nat.reduceLT, ev_tab, ne_eq, Nat.reduceEqDiff, not_false_eq_true, upd_ne, upd_eq, List.map_nil] <;> rfl) (szPartS i t f z hz) ?_
  simp -implicitDefEqProofs only [↓ops_cons, ↓g_assign, ↓ops_nil, ↓w_seq, ↓w_region, Int.reduceNeg, Nat.reduceLT, ev_tab, upd_eq, ↓g_move, ↓g_binOp, ev_const, of_int, b_lss, ↓w_cond, ↓w_ret, of_bool, ret_one, ↓w_skip, ↓g_load, ne_eq, Nat.reduceEqDiff, not_false_eq_true, upd_ne, rd_def, tyOk23, agg23, cells23, List.getElem?_cons_zero, rd_aggc, Nat.zero_add, List.length_cons, List.length_nil, Nat.reduceAdd, Nat.le_refl, List.drop_zero, List.take_succ_cons, List.take_zero, if_true, onS_some, onB_dec]
  by_cases h : 1048576 - (z.size : Int) < 0
  · simp -implicitDefEqProofs only [h, Int.reduceNeg, if_true, Int.reduceLT, decide_true]
    try rfl
  · have h2 : ¬ (1048576 - (z.size : Int) < 0) := h
    simp -implicitDefEqProofs only [h, Int.reduceNeg, if_false, decide_false]
    refine call1 (by simp -implicitDefEqProofs only [List.map_cons, Nat.reduceLT, ev_tab, upd_eq, List.map_nil] <;> rfl) (toPartS i t f z) ?_
    simp -implicitDefEqProofs only [↓ops_cons]
    by_cases hp : okPc i t f z ∧ z.size ≤ 1000
    · obtain ⟨⟨i0, _⟩, ⟨t0, _⟩, f0, _⟩ := id hp.1
      obtain ⟨i', rfl⟩ := Int.eq_ofNat_of_zero_le i0
      obtain ⟨t', rfl⟩ := Int.eq_ofNat_of_zero_le t0
      obtain ⟨f', rfl⟩ := Int.eq_ofNat_of_zero_le f0
      refine call1 (by simp -implicitDefEqProofs only [List.map_cons, Nat.reduceLT, ev_tab, upd_eq, List.map_nil] <;> rfl) (ptS i' t' f' z hp.1 hp.2) ?_
      simp -implicitDefEqProofs only [↓ops_cons, ↓g_move, ↓g_extract, Nat.reduceLT, ev_tab, upd_eq, ext_0, ne_eq, Nat.reduceEqDiff, not_false_eq_true, upd_ne, ext_1, ↓g_assign, ↓ops_nil, ↓w_seq, ↓w_region, ↓g_load, rd_def, tyOk23, agg23, cells23, List.getElem?_cons_zero, rd_aggc, Nat.zero_add, List.length_cons, List.length_nil, Nat.reduceAdd, Nat.le_refl, List.drop_zero, List.take_succ_cons, List.take_zero, if_true, onS_some]
      refine call1 (by simp -implicitDefEqProofs only [List.map_cons, Nat.reduceLT, ev_tab, upd_eq, List.map_nil] <;> rfl) (toPartS i' t' f' z) ?_
      simp -implicitDefEqProofs only [↓ops_cons]
      refine call1 (by simp -implicitDefEqProofs only [List.map_cons, Nat.reduceLT, ev_tab, upd_eq, List.map_nil] <;> rfl) (ptI i' t' f' z hp.1 hp.2) ?_
      simp -implicitDefEqProofs only [↓ops_cons, ↓g_move, ↓g_extract, Nat.reduceLT, ev_tab, upd_eq, ext_0, ne_eq, Nat.reduceEqDiff, not_false_eq_true, upd_ne, ext_1, ↓g_assign, ↓ops_nil, ↓w_seq, ↓w_region, ↓g_binOp, onS_some, t_neq, beq_self_eq_true, Bool.not_true, yielded_tab, dstAt_s, dstAt_0, ybv_some, boolOf_b, ↓g_guard_t, Try.underlying4, v_neq, ↓g_pick, ev_const, of_bool, pick_b, reduceCtorEq, if_false, ↓w_cond, ↓w_ret, ret_one, ↓w_skip, onB_false]
    · refine call1 (by simp -implicitDefEqProofs only [List.map_cons, Nat.reduceLT, ev_tab, upd_eq, List.map_nil] <;> rfl) (ptNoS i t f z hp (by omega)) ?_
      simp -implicitDefEqProofs only [↓ops_cons, ↓g_move, ↓g_extract, Nat.reduceLT, ev_tab, upd_eq, ext_0, ne_eq, Nat.reduceEqDiff, not_false_eq_true, upd_ne, ext_1, ↓g_assign, ↓ops_nil, ↓w_seq, ↓w_region, ↓g_load, rd_def, tyOk23, agg23, cells23, List.getElem?_cons_zero, rd_aggc, Nat.zero_add, List.length_cons, List.length_nil, Nat.reduceAdd, Nat.le_refl, List.drop_zero, List.take_succ_cons, List.take_zero, if_true, onS_some]
      refine call1 (by simp -implicitDefEqProofs only [List.map_cons, Nat.reduceLT, ev_tab, upd_eq, List.map_nil] <;> rfl) (toPartS i t f z) ?_
      simp -implicitDefEqProofs only [↓ops_cons]
      refine call1 (by simp -implicitDefEqProofs only [List.map_cons, Nat.reduceLT, ev_tab, upd_eq, List.map_nil] <;> rfl) (ptNoI i t f z hp (by omega)) ?_
      simp -implicitDefEqProofs only [↓ops_cons, ↓g_move, ↓g_extract, Nat.reduceLT, ev_tab, upd_eq, ext_0, ne_eq, Nat.reduceEqDiff, not_false_eq_true, upd_ne, ext_1, ↓g_assign, ↓ops_nil, ↓w_seq, ↓w_region, ↓g_binOp, onS_some, t_neq, beq_self_eq_true, Bool.not_true, yielded_tab, dstAt_s, dstAt_0, ybv_some, boolOf_b, ↓g_guard_t, Try.underlying4, v_neq, ↓g_pick, ev_const, of_bool, pick_b, reduceCtorEq, if_false, ↓w_cond, ↓w_ret, ret_one, ↓w_skip, onB_false]
end Go.Proofs.Ytheeehbaholjmaa.Sim

