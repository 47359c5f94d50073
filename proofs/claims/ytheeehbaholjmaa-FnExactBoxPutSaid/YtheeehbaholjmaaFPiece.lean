/- Whether a part is right. -/
import Derived.Test.YtheeehbaholjmaaFIn
namespace Go.Proofs.Ytheeehbaholjmaa.Sim
open Go
set_option maxRecDepth 100000
set_option maxHeartbeats 4000000
set_option linter.unusedSimpArgs false
set_option linter.unusedVariables false
theorem ovr_m (a : AV) (cs : List AV) (y : AV) (ys : List AV) : overA (a :: cs) 0 (y :: ys) = y :: overA cs 0 ys := by simp [overA]
theorem ovr_n (cs : List AV) : overA cs 0 [] = cs := by simp [overA]
/-- A part. -/
def prt (i t f : Int) (z : ByteArray) : AV := .agg [.sc (.int .i64 i), .sc (.int .i64 t), .sc (.int .i64 f), .sc (.string z)]
theorem prt_flat (i t f : Int) (z : ByteArray) : Flat (prt i t f z) := .agg (flats_cons (.sc _) (flats_cons (.sc _) (flats_cons (.sc _) (flats_cons (.sc _) flats_nil))))
def okPc (i t f : Int) (z : ByteArray) : Prop := (0 ≤ i ∧ i ≤ 65535) ∧ (0 ≤ t ∧ t ≤ 4000) ∧ (0 ≤ f ∧ f ≤ t - z.size)
theorem pieceI (i t f : Int) (z : ByteArray) (b : Bool) (hb : b = true ↔ okPc i t f z) (hz : z.size ≤ 1000000000) : Fn Try.prog 30 [prt i t f z] (.sc (.bool b)) := by
  refine Fn.run 22 [.tmp 2] Try.func30 rfl rfl rfl rfl (by simp) (flats_cons (prt_flat _ _ _ _) flats_nil) (.sc _) ?_
  unfold prt
  simp -implicitDefEqProofs only [↓w_seq, ↓w_region, ↓ops_cons, ↓g_box, Nat.reduceLT, ev_tab, par0, cells_agg, ↓g_assign, ↓ops_nil, ev_const, of_bool, ↓g_fieldAddrT, ne_eq, Nat.reduceEqDiff, not_false_eq_true, upd_ne, upd_eq, ↓g_load, alK_some, List.all_cons, one_int, one_str, List.all_nil, Bool.and_self, List.length_nil, fadr27_0, Nat.zero_add, List.nil_append, onS_some, rd_def, tyOk3, agg3, cells3, List.getElem?_cons_zero, rd_onec, true_and]
  refine call1 (by simp -implicitDefEqProofs only [List.map_cons, Nat.reduceLT, ev_tab, upd_eq, ev_const, of_int, List.map_nil] <;> rfl) (inI i 0 65535) ?_
  by_cases h1 : 0 ≤ i ∧ i ≤ 65535
  · rw [decide_eq_true h1]
    simp -implicitDefEqProofs only [↓ops_cons, ↓g_move, Nat.reduceLT, ev_tab, upd_eq, yielded_tab, dstAt_s, dstAt_0, ybv_some, boolOf_b, ↓g_guard_t, ↓g_fieldAddrT, ne_eq, Nat.reduceEqDiff, not_false_eq_true, upd_ne, fadr27_1, Nat.zero_add, ↓g_load, onS_some, rd_def, tyOk3, agg3, cells3, List.getElem?_cons_zero, rd_onec, List.getElem?_cons_succ]
    refine call1 (by simp -implicitDefEqProofs only [List.map_cons, Nat.reduceLT, ev_tab, upd_eq, ev_const, of_int, List.map_nil] <;> rfl) (inI t 0 4000) ?_
    by_cases h2 : 0 ≤ t ∧ t ≤ 4000
    · have e1 : IntKind.i64.wrap (t - z.size) = t - z.size := w64 (by omega) (by omega)
      rw [decide_eq_true h2]
      simp -implicitDefEqProofs only [↓ops_cons, ↓g_pick, Nat.reduceLT, ev_tab, ne_eq, Nat.reduceEqDiff, not_false_eq_true, upd_ne, upd_eq, ev_const, of_bool, pick_b, if_true, ↓g_move, onS_some, yielded_tab, dstAt_s, dstAt_0, ybv_some, boolOf_b, ↓g_guard_t, ↓g_fieldAddrT, fadr27_2, Nat.zero_add, ↓g_load, fadr27_1, fadr27_3, ↓g_len, Try.underlying9, ↓g_binOp, rd_def, tyOk9, agg9, cells9, List.getElem?_cons_zero, rd_onec, List.getElem?_cons_succ, len_str, tyOk3, agg3, cells3, b_sub, e1]
      refine call1 (by simp -implicitDefEqProofs only [List.map_cons, Nat.reduceLT, ev_tab, ne_eq, Nat.reduceEqDiff, not_false_eq_true, upd_ne, upd_eq, ev_const, of_int, List.map_nil] <;> rfl) (inI f 0 (t - z.size)) ?_
      have hbe : b = decide (0 ≤ f ∧ f ≤ t - z.size) := by
        by_cases h3 : 0 ≤ f ∧ f ≤ t - z.size
        · rw [decide_eq_true h3, hb.2 ⟨h1, h2, h3⟩]
        · rw [decide_eq_false h3]
          cases b with
          | false => rfl
          | true => exact absurd (hb.1 rfl).2.2 h3
      simp -implicitDefEqProofs only [↓ops_cons, ↓g_pick, Nat.reduceLT, ev_tab, ne_eq, Nat.reduceEqDiff, not_false_eq_true, upd_ne, upd_eq, ev_const, of_bool, pick_b, if_true, ↓g_assign, ↓ops_nil, ↓w_ret, ret_one, onS_some]
      rw [hbe]
    · have hbf : b = false := by
        cases b with
        | false => rfl
        | true => exact absurd (hb.1 rfl).2.1 h2
      rw [decide_eq_false h2]
      simp -implicitDefEqProofs only [↓ops_cons, ↓g_pick, Nat.reduceLT, ev_tab, ne_eq, Nat.reduceEqDiff, not_false_eq_true, upd_ne, upd_eq, ev_const, of_bool, pick_b, if_true, ↓g_move, hbf, onS_some, yielded_tab, dstAt_s, dstAt_0, ybv_some, boolOf_b, Bool.not_true, ↓g_guard_f, Bool.false_eq_true, if_false, ↓g_assign, ↓ops_nil, ↓w_ret, ret_one]
  · have hbf : b = false := by
      cases b with
      | false => rfl
      | true => exact absurd (hb.1 rfl).1 h1
    rw [decide_eq_false h1]
    simp -implicitDefEqProofs only [↓ops_cons, ↓g_move, Nat.reduceLT, ev_tab, upd_eq, yielded_tab, dstAt_s, dstAt_0, ybv_some, boolOf_b, Bool.not_true, ↓g_guard_f, ne_eq, Nat.reduceEqDiff, not_false_eq_true, upd_ne, ↓g_pick, ev_const, of_bool, pick_b, Bool.false_eq_true, if_false, hbf, onS_some, ↓g_assign, ↓ops_nil, ↓w_ret, ret_one]
theorem pieceS (i t f : Int) (z : ByteArray) (b : Bool) (hb : b = true ↔ okPc i t f z) (hz : z.size ≤ 1000000000) : Fn Try.prog 44 [prt i t f z] (.sc (.bool b)) := by
  refine Fn.run 30 [.tmp 2] Try.func44 rfl rfl rfl rfl (by simp) (flats_cons (prt_flat _ _ _ _) flats_nil) (.sc _) ?_
  unfold prt
  simp -implicitDefEqProofs only [↓w_seq, ↓w_region, ↓ops_cons, ↓g_box, Nat.reduceLT, ev_tab, par0, cells_agg, ↓g_assign, ↓ops_nil, ev_const, of_bool, ↓g_fieldAddrT, ne_eq, Nat.reduceEqDiff, not_false_eq_true, upd_ne, upd_eq, ↓g_load, alK_some, List.all_cons, one_int, one_str, List.all_nil, Bool.and_self, List.length_nil, fadr27_0, Nat.zero_add, List.nil_append, onS_some, rd_def, tyOk3, agg3, cells3, List.getElem?_cons_zero, rd_onec, true_and]
  refine call1 (by simp -implicitDefEqProofs only [List.map_cons, Nat.reduceLT, ev_tab, upd_eq, ev_const, of_int, List.map_nil] <;> rfl) (inS i 0 65535) ?_
  by_cases h1 : 0 ≤ i ∧ i ≤ 65535
  · rw [decide_eq_true h1]
    simp -implicitDefEqProofs only [↓ops_cons, ↓g_move, Nat.reduceLT, ev_tab, upd_eq, yielded_tab, dstAt_s, dstAt_0, ybv_some, boolOf_b, ↓g_guard_t, ↓g_fieldAddrT, ne_eq, Nat.reduceEqDiff, not_false_eq_true, upd_ne, fadr27_1, Nat.zero_add, ↓g_load, onS_some, rd_def, tyOk3, agg3, cells3, List.getElem?_cons_zero, rd_onec, List.getElem?_cons_succ]
    refine call1 (by simp -implicitDefEqProofs only [List.map_cons, Nat.reduceLT, ev_tab, upd_eq, ev_const, of_int, List.map_nil] <;> rfl) (inS t 0 4000) ?_
    by_cases h2 : 0 ≤ t ∧ t ≤ 4000
    · have e1 : IntKind.i64.wrap (t - z.size) = t - z.size := w64 (by omega) (by omega)
      rw [decide_eq_true h2]
      by_cases h4 : (z.size : Int) ≤ t
      · simp -implicitDefEqProofs only [↓ops_cons, ↓g_pick, Nat.reduceLT, ev_tab, ne_eq, Nat.reduceEqDiff, not_false_eq_true, upd_ne, upd_eq, ev_const, of_bool, pick_b, if_true, ↓g_move, onS_some, yielded_tab, dstAt_s, dstAt_0, ybv_some, boolOf_b, ↓g_guard_t, ↓g_fieldAddrT, fadr27_3, Nat.zero_add, ↓g_load, ↓g_len, Try.underlying9, fadr27_1, ↓g_binOp, rd_def, tyOk3, agg3, cells3, List.getElem?_cons_zero, rd_onec, List.getElem?_cons_succ, tyOk9, agg9, cells9, len_str, b_leq, h4, decide_true, fadr27_2, b_sub, e1]
        refine call1 (by simp -implicitDefEqProofs only [List.map_cons, Nat.reduceLT, ev_tab, ne_eq, Nat.reduceEqDiff, not_false_eq_true, upd_ne, upd_eq, ev_const, of_int, List.map_nil] <;> rfl) (inS f 0 (t - z.size)) ?_
        have hbe : b = decide (0 ≤ f ∧ f ≤ t - z.size) := by
          by_cases h3 : 0 ≤ f ∧ f ≤ t - z.size
          · rw [decide_eq_true h3, hb.2 ⟨h1, h2, h3⟩]
          · rw [decide_eq_false h3]
            cases b with
            | false => rfl
            | true => exact absurd (hb.1 rfl).2.2 h3
        simp -implicitDefEqProofs only [↓ops_cons, ↓g_pick, Nat.reduceLT, ev_tab, ne_eq, Nat.reduceEqDiff, not_false_eq_true, upd_ne, upd_eq, ev_const, of_bool, pick_b, if_true, ↓g_assign, ↓ops_nil, ↓w_ret, ret_one, onS_some]
        rw [hbe]
      · have hbf : b = false := by
          cases b with
          | false => rfl
          | true =>
            have := (hb.1 rfl).2.2
            omega
        simp -implicitDefEqProofs only [↓ops_cons, ↓g_pick, Nat.reduceLT, ev_tab, ne_eq, Nat.reduceEqDiff, not_false_eq_true, upd_ne, upd_eq, ev_const, of_bool, pick_b, if_true, ↓g_move, hbf, onS_some, yielded_tab, dstAt_s, dstAt_0, ybv_some, boolOf_b, ↓g_guard_t, ↓g_fieldAddrT, fadr27_3, Nat.zero_add, ↓g_load, ↓g_len, Try.underlying9, fadr27_1, ↓g_binOp, rd_def, tyOk3, agg3, cells3, List.getElem?_cons_zero, rd_onec, List.getElem?_cons_succ, tyOk9, agg9, cells9, len_str, b_leq, h4, decide_false, Bool.not_true, ↓g_guard_f, Bool.false_eq_true, if_false, ↓g_assign, ↓ops_nil, ↓w_ret, ret_one]
    · have hbf : b = false := by
        cases b with
        | false => rfl
        | true => exact absurd (hb.1 rfl).2.1 h2
      rw [decide_eq_false h2]
      simp -implicitDefEqProofs only [↓ops_cons, ↓g_pick, Nat.reduceLT, ev_tab, ne_eq, Nat.reduceEqDiff, not_false_eq_true, upd_ne, upd_eq, ev_const, of_bool, pick_b, if_true, ↓g_move, hbf, onS_some, yielded_tab, dstAt_s, dstAt_0, ybv_some, boolOf_b, Bool.not_true, ↓g_guard_f, Bool.false_eq_true, if_false, ↓g_assign, ↓ops_nil, ↓w_ret, ret_one]
  · have hbf : b = false := by
      cases b with
      | false => rfl
      | true => exact absurd (hb.1 rfl).1 h1
    rw [decide_eq_false h1]
    simp -implicitDefEqProofs only [↓ops_cons, ↓g_move, Nat.reduceLT, ev_tab, upd_eq, yielded_tab, dstAt_s, dstAt_0, ybv_some, boolOf_b, Bool.not_true, ↓g_guard_f, ne_eq, Nat.reduceEqDiff, not_false_eq_true, upd_ne, ↓g_pick, ev_const, of_bool, pick_b, Bool.false_eq_true, if_false, hbf, onS_some, ↓g_assign, ↓ops_nil, ↓w_ret, ret_one]
theorem toPartS (i t f : Int) (z : ByteArray) : Fn Try.prog 13 [prt i t f z] (prt i t f z) := by
  refine Fn.run 17 [.cell 2 27] Try.func13 rfl rfl rfl rfl (by simp) (flats_cons (prt_flat _ _ _ _) flats_nil) (prt_flat _ _ _ _) ?_
  unfold prt
  simp -implicitDefEqProofs only [↓w_seq, ↓w_region, ↓ops_cons, ↓g_box, Nat.reduceLT, ev_tab, par0, cells_agg, ↓g_alloc, zero27, Option.map_some, ↓ops_nil, ↓g_fieldAddrT, ne_eq, Nat.reduceEqDiff, not_false_eq_true, upd_ne, upd_eq, ↓g_load, ↓g_store, ↓w_ret, ret_cell, alK_some, List.all_cons, one_int, one_str, List.all_nil, Bool.and_self, fadr27_0, Nat.zero_add, fadr27_1, fadr27_2, fadr27_3, rd_def, tyOk27, agg27, cells27, onS_some, wr_def, tyOk9, cells9, tyOk3, cells3, at_end, wr_c, List.length_cons, List.length_nil, Nat.reduceAdd, Nat.reduceLeDiff, true_and, onS_ite, List.length_append, fadr23_0, List.nil_append, List.cons_append, fadr23_1, List.set_cons_succ, List.set_cons_zero, List.getElem?_cons_succ, List.getElem?_cons_zero, fadr23_2, fadr23_3, agg9, agg3, rd_onec, cells_int, and_self, ovr_m, ovr_n, over_s, if_true, rd_aggc, List.drop_zero, List.take_succ_cons, Nat.le_refl, cells_str, and_true, List.take_zero]
theorem szPartS (i t f : Int) (z : ByteArray) (hz : z.size ≤ 9223372036854775807) : Fn Try.prog 11 [prt i t f z, .sc (.int .i64 1048576)] (.sc (.int .i64 (if 1048576 - (z.size : Int) < 0 then -1 else 1048576 - z.size))) := by
  refine Fn.run 13 [.tmp 4] Try.func11 rfl rfl rfl rfl (by simp) (flats_cons (prt_flat _ _ _ _) (flats_cons (.sc _) flats_nil)) (.sc _) ?_
  unfold prt
  have e1 : IntKind.i64.wrap (1048576 - (z.size : Int)) = 1048576 - z.size := w64 (by omega) (by omega)
  simp -implicitDefEqProofs only [↓w_seq, ↓w_region, Int.reduceNeg, ↓ops_cons, ↓g_box, Nat.reduceLT, ev_tab, par0, cells_agg, ↓g_assign, ↓ops_nil, ev_const, of_int, ↓g_move, ↓g_fieldAddrT, ne_eq, Nat.reduceEqDiff, not_false_eq_true, upd_ne, par1, upd_eq, ↓g_load, ↓g_len, Try.underlying9, ↓g_binOp, ↓w_cond, ↓w_ret, ret_one, ↓w_skip, alK_some, List.all_cons, one_int, one_str, List.all_nil, Bool.and_self, List.length_nil, fadr23_3, Nat.zero_add, List.nil_append, onS_some, rd_def, tyOk9, agg9, cells9, List.getElem?_cons_zero, rd_onec, List.getElem?_cons_succ, len_str, b_sub, e1, b_lss, onB_dec, true_and]
  split <;> rfl
end Go.Proofs.Ytheeehbaholjmaa.Sim

