/- A part's text. -/
import Derived.Test.YtheeehbaholjmaaFPiece
import Derived.Test.YtheeehbaholjmaaFVar
namespace Go.Proofs.Ytheeehbaholjmaa.Sim
open Go
set_option maxRecDepth 100000
set_option maxHeartbeats 4000000
set_option linter.unusedSimpArgs false
set_option linter.unusedVariables false
theorem son_app (l : List Int) (z : ByteArray) : strOfNums l ++ z = strOfNums (l ++ nums z) := by
  have : z = strOfNums (nums z) := (son_nums z).symm
  conv => lhs; rw [this]
  rw [son_append]
def ptT (i t f : Nat) (z : ByteArray) : ByteArray := strOfNums (varN i ++ (varN t ++ (varN f ++ (varN z.size ++ nums z))))
theorem shortI (z : ByteArray) (hz : z.size ≤ 20000) : Fn Try.prog 47 [.sc (.string z)] (.tup [.sc (.string (strOfNums (varN z.size ++ nums z))), .sc (.bool true)]) := by
  refine Fn.run 18 [.tmp 2, .tmp 3] Try.func47 rfl rfl rfl rfl (by simp) (flats_cons (.sc _) flats_nil) (.tup (flats_cons (.sc _) (flats_cons (.sc _) flats_nil))) ?_
  have k1 : ¬ (20000 : Int) < z.size := by omega
  have h5 := varN_5 z.size (by omega)
  have hv : varT z.size = strOfNums (varN z.size) := rfl
  simp -implicitDefEqProofs only [↓w_seq, ↓w_region, ↓ops_cons, ↓g_assign, ↓ops_nil, ev_const, of_str, of_bool, ↓g_move, ↓g_len, Try.underlying9, Nat.reduceLT, ev_tab, ne_eq, reduceCtorEq, not_false_eq_true, upd_ne, par0, upd_eq, len_str, ↓g_binOp, of_int, ↓w_cond, ↓w_ret, ret_two, Nat.reduceEqDiff, ↓w_skip, onS_some, b_gtr, k1, decide_false, onB_false]
  refine call1 (by simp -implicitDefEqProofs only [List.map_cons, Nat.reduceLT, ev_tab, upd_eq, List.map_nil] <;> rfl) (varI z.size (by omega)) ?_
  simp -implicitDefEqProofs only [↓ops_cons, ↓g_move, ↓g_extract, hv, Nat.reduceLT, ev_tab, upd_eq, ext_0, ne_eq, Nat.reduceEqDiff, not_false_eq_true, upd_ne, ext_1, ↓g_assign, ↓ops_nil, ↓w_seq, ↓w_region, ↓g_binOp, reduceCtorEq, par0, ↓w_ret, ev_const, of_bool, ret_two, onS_some, t_add, son_size, onS_ite]
  exact ⟨by omega, by rw [son_app]⟩
theorem ptI (i t f : Nat) (z : ByteArray) (h : okPc i t f z) (hz : z.size ≤ 1000) : Fn Try.prog 14 [prt i t f z] (.tup [.sc (.string (ptT i t f z)), .sc (.bool true)]) := by
  refine Fn.run 50 [.tmp 2, .tmp 3] Try.func14 rfl rfl rfl rfl (by simp) (flats_cons (prt_flat _ _ _ _) flats_nil) (.tup (flats_cons (.sc _) (flats_cons (.sc _) flats_nil))) ?_
  obtain ⟨⟨_, hi⟩, ⟨_, ht⟩, hf⟩ := id h
  have k1 : ¬ (1000 : Int) < z.size := by omega
  have hp := pieceI i t f z true (by simp [h]) (by omega)
  unfold prt at hp ⊢
  have hi5 := varN_5 i (by omega)
  have ht5 := varN_5 t (by omega)
  have hf5 := varN_5 f (by omega)
  have hz5 := varN_5 z.size (by omega)
  have hv : ∀ n, varT n = strOfNums (varN n) := fun _ => rfl
  simp -implicitDefEqProofs only [↓w_seq, ↓w_region, ↓ops_cons, ↓g_box, Nat.reduceLT, ev_tab, par0, cells_agg, ↓g_assign, ↓ops_nil, ev_const, of_str, of_bool, ↓g_load, ne_eq, Nat.reduceEqDiff, not_false_eq_true, upd_ne, upd_eq, alK_some, List.all_cons, one_int, one_str, List.all_nil, Bool.and_self, List.length_nil, List.nil_append, rd_def, tyOk27, agg27, cells27, List.getElem?_cons_zero, rd_aggc, Nat.zero_add, List.length_cons, Nat.reduceAdd, Nat.le_refl, List.drop_zero, List.take_succ_cons, List.take_zero, if_true, onS_some, true_and]
  refine call1 (by simp -implicitDefEqProofs only [List.map_cons, Nat.reduceLT, ev_tab, upd_eq, List.map_nil] <;> rfl) hp ?_
  simp -implicitDefEqProofs only [↓ops_cons, ↓g_unOp, Nat.reduceLT, ev_tab, upd_eq, u_not, Bool.not_true, Option.map_some, ↓g_move, onS_some, yielded_tab, dstAt_s, dstAt_0, ybv_some, boolOf_b, ↓g_guard_t, ↓g_fieldAddrT, ne_eq, Nat.reduceEqDiff, not_false_eq_true, upd_ne, fadr27_3, Nat.zero_add, ↓g_load, ↓g_len, Try.underlying9, ↓g_binOp, ev_const, of_int, ↓g_pick, of_bool, pick_b, reduceCtorEq, if_false, ↓ops_nil, ↓w_cond, ↓w_seq, ↓w_region, ↓g_assign, ↓w_ret, of_str, ret_two, ↓w_skip, fadr27_0, fadr27_1, fadr27_2, ↓g_buildSlice, Try.underlying48, List.map_cons, List.map_nil, ↓w_block, rd_def, tyOk3, agg3, cells3, List.getElem?_cons_zero, rd_onec, List.getElem?_cons_succ, bs3_3, alK_some, ints_one, List.length_cons, List.length_nil, len_sl, Int.cast_ofNat_Int, List.cons_append, List.nil_append, true_and, tyOk9, agg9, cells9, len_str, b_gtr, k1, decide_false, onB_false]
  refine w_loop (ι := Nat) (fun k s => ∃ T : Nat → AV, s = ⟨tab 50 T, [⟨[.sc (.int .i64 i), .sc (.int .i64 t), .sc (.int .i64 f), .sc (.string z)], true, true⟩, ⟨ints .i64 [(i : Int), (t : Int), (f : Int)], true, true⟩]⟩ ∧ k ≤ 3 ∧ T 1 = .ptr 0 0 ∧ T 4 = .sc (.string (strOfNums ((([i, t, f] : List Nat).take k).flatMap varN))) ∧ T 26 = .sl 1 0 3 1 ∧ T 27 = .sc (.int .i64 3) ∧ T 28 = .sc (.int .i64 k)) (fun k => 3 - k) ?_ (i := 0) ?_
  · rintro k s ⟨T, rfl, a1, a2, a3, a4, a5, a6⟩
    match k, a1 with
    | 0, _ =>
      simp -implicitDefEqProofs only [↓w_seq, ↓w_region, Nat.reduceSub, ↓ops_cons, ↓g_binOp, Nat.reduceLT, ev_tab, a6, Int.cast_ofNat_Int, a5, b_lss, Int.reduceLT, decide_true, ↓ops_nil, ↓w_cond, upd_eq, ↓w_skip, ↓w_block, ↓g_indexAddr, Try.underlying48, ne_eq, Nat.reduceEqDiff, not_false_eq_true, upd_ne, a4, adr_sl, Int.reduceLE, cells3, tyOk3, and_self, Int.toNat_zero, Nat.mul_one, Nat.zero_add, if_true, ↓g_load, ↓g_assign, ↓g_move, onS_some, rd_def, agg3, List.getElem?_cons_succ, List.getElem?_cons_zero, rd_ints, List.length_cons, List.length_nil, Nat.reduceAdd, List.getD_cons_zero, ↓w_exit, ↓g_fieldAddrT, a2, fadr27_3, tyOk9, agg9, cells9, rd_onec, onB_true]
      refine call1 (by simp -implicitDefEqProofs only [List.map_cons, Nat.reduceLT, ev_tab, upd_eq, List.map_nil] <;> rfl) (varI i (by omega)) ?_
      simp -implicitDefEqProofs only [↓ops_cons, ↓g_move, ↓g_extract, hv, Nat.reduceLT, ev_tab, upd_eq, ext_0, ne_eq, Nat.reduceEqDiff, not_false_eq_true, upd_ne, ext_1, ↓g_assign, ↓ops_nil, ↓w_region, ↓g_binOp, a3, List.take_zero, List.flatMap_nil, a6, Int.cast_ofNat_Int, ev_const, of_int, b_add, Int.reduceAdd, onS_some, t_add, son_size, List.length_nil, Nat.zero_add, son_append, List.nil_append, onS_ite]
      refine ⟨by omega, 1, by omega, _, rfl, by omega, ?_, ?_, ?_, ?_, ?_⟩ <;> simp -implicitDefEqProofs only [ne_eq, Nat.reduceEqDiff, not_false_eq_true, upd_ne, a2, upd_eq, List.take_succ_cons, List.take_zero, List.flatMap_cons, List.flatMap_nil, List.append_nil, a4, a5, Int.cast_ofNat_Int] <;> rfl
    | 1, _ =>
      simp -implicitDefEqProofs only [↓w_seq, ↓w_region, Nat.reduceSub, ↓ops_cons, ↓g_binOp, Nat.reduceLT, ev_tab, a6, Int.cast_ofNat_Int, a5, b_lss, Int.reduceLT, decide_true, ↓ops_nil, ↓w_cond, upd_eq, ↓w_skip, ↓w_block, ↓g_indexAddr, Try.underlying48, ne_eq, Nat.reduceEqDiff, not_false_eq_true, upd_ne, a4, adr_sl, Int.reduceLE, cells3, tyOk3, and_self, Int.reduceToNat, Nat.mul_one, Nat.zero_add, if_true, ↓g_load, ↓g_assign, ↓g_move, onS_some, rd_def, agg3, List.getElem?_cons_succ, List.getElem?_cons_zero, rd_ints, List.length_cons, List.length_nil, Nat.reduceAdd, List.getD_cons_succ, List.getD_cons_zero, ↓w_exit, ↓g_fieldAddrT, a2, fadr27_3, tyOk9, agg9, cells9, rd_onec, onB_true]
      refine call1 (by simp -implicitDefEqProofs only [List.map_cons, Nat.reduceLT, ev_tab, upd_eq, List.map_nil] <;> rfl) (varI t (by omega)) ?_
      simp -implicitDefEqProofs only [↓ops_cons, ↓g_move, ↓g_extract, hv, Nat.reduceLT, ev_tab, upd_eq, ext_0, ne_eq, Nat.reduceEqDiff, not_false_eq_true, upd_ne, ext_1, ↓g_assign, ↓ops_nil, ↓w_region, ↓g_binOp, a3, List.take_succ_cons, List.take_zero, List.flatMap_cons, List.flatMap_nil, List.append_nil, a6, Int.cast_ofNat_Int, ev_const, of_int, b_add, Int.reduceAdd, onS_some, t_add, son_size, son_append, onS_ite]
      refine ⟨by omega, 2, by omega, _, rfl, by omega, ?_, ?_, ?_, ?_, ?_⟩ <;> simp -implicitDefEqProofs only [ne_eq, Nat.reduceEqDiff, not_false_eq_true, upd_ne, a2, upd_eq, List.take_succ_cons, List.take_zero, List.flatMap_cons, List.flatMap_nil, List.append_nil, a4, a5, Int.cast_ofNat_Int] <;> rfl
    | 2, _ =>
      simp -implicitDefEqProofs only [↓w_seq, ↓w_region, Nat.reduceSub, ↓ops_cons, ↓g_binOp, Nat.reduceLT, ev_tab, a6, Int.cast_ofNat_Int, a5, b_lss, Int.reduceLT, decide_true, ↓ops_nil, ↓w_cond, upd_eq, ↓w_skip, ↓w_block, ↓g_indexAddr, Try.underlying48, ne_eq, Nat.reduceEqDiff, not_false_eq_true, upd_ne, a4, adr_sl, Int.reduceLE, cells3, tyOk3, and_self, Int.reduceToNat, Nat.mul_one, Nat.zero_add, if_true, ↓g_load, ↓g_assign, ↓g_move, onS_some, rd_def, agg3, List.getElem?_cons_succ, List.getElem?_cons_zero, rd_ints, List.length_cons, List.length_nil, Nat.reduceAdd, List.getD_cons_succ, List.getD_cons_zero, ↓w_exit, ↓g_fieldAddrT, a2, fadr27_3, tyOk9, agg9, cells9, rd_onec, onB_true]
      refine call1 (by simp -implicitDefEqProofs only [List.map_cons, Nat.reduceLT, ev_tab, upd_eq, List.map_nil] <;> rfl) (varI f (by omega)) ?_
      simp -implicitDefEqProofs only [↓ops_cons, ↓g_move, ↓g_extract, hv, Nat.reduceLT, ev_tab, upd_eq, ext_0, ne_eq, Nat.reduceEqDiff, not_false_eq_true, upd_ne, ext_1, ↓g_assign, ↓ops_nil, ↓w_region, ↓g_binOp, a3, List.take_succ_cons, List.take_zero, List.flatMap_cons, List.flatMap_nil, List.append_nil, a6, Int.cast_ofNat_Int, ev_const, of_int, b_add, Int.reduceAdd, onS_some, t_add, son_size, List.length_append, son_append, onS_ite]
      refine ⟨by omega, 3, by omega, _, rfl, by omega, ?_, ?_, ?_, ?_, ?_⟩ <;> simp -implicitDefEqProofs only [List.append_assoc, ne_eq, Nat.reduceEqDiff, not_false_eq_true, upd_ne, a2, upd_eq, List.take_succ_cons, List.take_zero, List.flatMap_cons, List.flatMap_nil, List.append_nil, a4, a5, Int.cast_ofNat_Int] <;> rfl
    | 3, _ =>
      simp -implicitDefEqProofs only [↓w_seq, ↓w_region, Nat.reduceSub, ↓ops_cons, ↓g_binOp, Nat.reduceLT, ev_tab, a6, Int.cast_ofNat_Int, a5, b_lss, Int.reduceLT, decide_false, ↓ops_nil, ↓w_cond, upd_eq, ↓w_skip, ↓w_block, ↓g_indexAddr, Try.underlying48, ne_eq, Nat.reduceEqDiff, not_false_eq_true, upd_ne, a4, adr_sl, Int.reduceLE, cells3, tyOk3, and_self, and_true, and_false, Int.reduceToNat, Nat.mul_one, Nat.zero_add, if_false, ↓g_load, ↓g_assign, ↓g_move, ↓w_exit, ↓g_fieldAddrT, a2, fadr27_3, onS_some, rd_def, tyOk9, agg9, cells9, List.getElem?_cons_zero, rd_onec, List.getElem?_cons_succ, if_true, onB_false]
      refine call1 (by simp -implicitDefEqProofs only [List.map_cons, Nat.reduceLT, ev_tab, upd_eq, List.map_nil] <;> rfl) (shortI z (by omega)) ?_
      simp -implicitDefEqProofs only [↓ops_cons, ↓g_move, ↓g_extract, Nat.reduceLT, ev_tab, upd_eq, ext_0, ne_eq, Nat.reduceEqDiff, not_false_eq_true, upd_ne, ext_1, ↓g_assign, ↓ops_nil, ↓w_seq, ↓w_region, ↓g_binOp, a3, List.take_succ_cons, List.take_zero, List.flatMap_cons, List.flatMap_nil, List.append_nil, ↓w_ret, ev_const, of_bool, ret_two, onS_some, t_add, son_size, List.length_append, nums_len, son_append, onS_ite]
      refine ⟨by omega, ?_⟩
      simp only [ptT, List.append_assoc]
    | n + 4, h => exact absurd h (by omega)
  · refine ⟨_, rfl, by omega, ?_, ?_, ?_, ?_, ?_⟩ <;> simp -implicitDefEqProofs only [ne_eq, Nat.reduceEqDiff, not_false_eq_true, upd_ne, upd_eq, List.take_zero, List.flatMap_nil, Int.cast_ofNat_Int] <;> rfl
theorem ptS (i t f : Nat) (z : ByteArray) (h : okPc i t f z) (hz : z.size ≤ 1000) : Fn Try.prog 12 [prt i t f z] (.tup [.sc (.string (ptT i t f z)), .sc (.bool true)]) := by
  refine Fn.run 32 [.tmp 2, .tmp 3] Try.func12 rfl rfl rfl rfl (by simp) (flats_cons (prt_flat _ _ _ _) flats_nil) (.tup (flats_cons (.sc _) (flats_cons (.sc _) flats_nil))) ?_
  obtain ⟨⟨_, hi⟩, ⟨_, ht⟩, hf⟩ := id h
  have k1 : ¬ (1000 : Int) < z.size := by omega
  have hp := pieceS i t f z true (by simp [h]) (by omega)
  unfold prt at hp ⊢
  have hi5 := varN_5 i (by omega)
  have ht5 := varN_5 t (by omega)
  have hf5 := varN_5 f (by omega)
  have hz5 := varN_5 z.size (by omega)
  have hv : ∀ n, varT n = strOfNums (varN n) := fun _ => rfl
  simp -implicitDefEqProofs only [↓w_seq, ↓w_region, ↓ops_cons, ↓g_box, Nat.reduceLT, ev_tab, par0, cells_agg, ↓g_assign, ↓ops_nil, ev_const, of_str, of_bool, ↓g_load, ne_eq, Nat.reduceEqDiff, not_false_eq_true, upd_ne, upd_eq, alK_some, List.all_cons, one_int, one_str, List.all_nil, Bool.and_self, List.length_nil, List.nil_append, rd_def, tyOk27, agg27, cells27, List.getElem?_cons_zero, rd_aggc, Nat.zero_add, List.length_cons, Nat.reduceAdd, Nat.le_refl, List.drop_zero, List.take_succ_cons, List.take_zero, if_true, onS_some, true_and]
  refine call1 (by simp -implicitDefEqProofs only [List.map_cons, Nat.reduceLT, ev_tab, upd_eq, List.map_nil] <;> rfl) hp ?_
  simp -implicitDefEqProofs only [↓ops_cons, ↓g_unOp, Nat.reduceLT, ev_tab, upd_eq, u_not, Bool.not_true, Option.map_some, ↓g_move, onS_some, yielded_tab, dstAt_s, dstAt_0, ybv_some, boolOf_b, ↓g_guard_t, ↓g_fieldAddrT, ne_eq, Nat.reduceEqDiff, not_false_eq_true, upd_ne, fadr27_3, Nat.zero_add, ↓g_load, ↓g_len, Try.underlying9, ↓g_binOp, ev_const, of_int, ↓g_pick, of_bool, pick_b, reduceCtorEq, if_false, ↓ops_nil, ↓w_cond, ↓w_seq, ↓w_region, ↓g_assign, ↓w_ret, of_str, ret_two, ↓w_skip, rd_def, tyOk9, agg9, cells9, List.getElem?_cons_zero, rd_onec, List.getElem?_cons_succ, len_str, b_gtr, k1, decide_false, onB_false]
  refine drawn [(1, 0), (4, 0), (4, 3), (8, 0), (8, 3), (8, 6), (12, 0), (12, 3), (12, 6), (12, 10), (17, 0), (17, 3), (17, 6), (17, 10), (17, 15)] follows (by kernel_rfl) (by kernel_rfl) ?_
  simp -implicitDefEqProofs only [↓dops_cons, ↓g_fieldAddrT, Nat.reduceLT, ev_tab, ne_eq, Nat.reduceEqDiff, not_false_eq_true, upd_ne, upd_eq, fadr27_0, Nat.zero_add, ↓g_load, onS_some, rd_def, tyOk3, agg3, cells3, List.getElem?_cons_zero, rd_onec]
  refine call1 (by simp -implicitDefEqProofs only [List.map_cons, Nat.reduceLT, ev_tab, upd_eq, List.map_nil] <;> rfl) (varS i (by omega)) ?_
  simp -implicitDefEqProofs only [↓dops_cons, ↓g_fieldAddrT, Nat.reduceLT, ev_tab, ne_eq, Nat.reduceEqDiff, not_false_eq_true, upd_ne, upd_eq, fadr27_1, Nat.zero_add, ↓g_load, onS_some, rd_def, tyOk3, agg3, cells3, List.getElem?_cons_zero, rd_onec, List.getElem?_cons_succ]
  refine call1 (by simp -implicitDefEqProofs only [List.map_cons, Nat.reduceLT, ev_tab, upd_eq, List.map_nil] <;> rfl) (varS t (by omega)) ?_
  simp -implicitDefEqProofs only [↓dops_cons, ↓g_binOp, hv, Nat.reduceLT, ev_tab, ne_eq, Nat.reduceEqDiff, not_false_eq_true, upd_ne, upd_eq, t_add, son_size, son_append, ↓g_fieldAddrT, fadr27_2, Nat.zero_add, ↓g_load, onS_some, rd_def, tyOk3, agg3, cells3, List.getElem?_cons_zero, rd_onec, List.getElem?_cons_succ, onS_ite]
  refine ⟨by omega, ?_⟩
  refine call1 (by simp -implicitDefEqProofs only [List.map_cons, Nat.reduceLT, ev_tab, upd_eq, List.map_nil] <;> rfl) (varS f (by omega)) ?_
  simp -implicitDefEqProofs only [↓dops_cons, ↓g_binOp, hv, Nat.reduceLT, ev_tab, ne_eq, Nat.reduceEqDiff, not_false_eq_true, upd_ne, upd_eq, t_add, son_size, List.length_append, son_append, ↓g_fieldAddrT, fadr27_3, Nat.zero_add, ↓g_load, ↓g_len, Try.underlying9, onS_some, rd_def, tyOk9, agg9, cells9, List.getElem?_cons_zero, rd_onec, List.getElem?_cons_succ, len_str, onS_ite]
  refine ⟨by omega, ?_⟩
  refine call1 (by simp -implicitDefEqProofs only [List.map_cons, Nat.reduceLT, ev_tab, upd_eq, List.map_nil] <;> rfl) (varS z.size (by omega)) ?_
  simp -implicitDefEqProofs only [↓dops_cons, ↓g_binOp, hv, Nat.reduceLT, ev_tab, ne_eq, Nat.reduceEqDiff, not_false_eq_true, upd_ne, upd_eq, t_add, son_size, List.length_append, son_append, ↓g_fieldAddrT, fadr27_3, Nat.zero_add, ↓g_load, ↓g_assign, ↓dops_p, ev_const, of_bool, ↓w_ret, ret_two, onS_some, rd_def, tyOk9, agg9, cells9, List.getElem?_cons_zero, rd_onec, List.getElem?_cons_succ, onS_ite]
  refine ⟨by omega, by omega, ?_⟩
  refine ⟨pairs_cons (same_H rfl) (pairs_cons (same_H rfl) (pairs_cons (same_H rfl) (pairs_cons (same_H rfl) (pairs_cons (same_H rfl) (pairs_cons (same_H rfl) (pairs_cons (same_H rfl) (pairs_cons (same_H rfl) (pairs_cons (same_H rfl) (pairs_cons (same_H rfl) (pairs_cons (same_H rfl) (pairs_cons (same_H rfl) (pairs_cons (same_H rfl) (pairs_cons (same_H rfl) (pairs_cons (same_H rfl) (pairs_nil))))))))))))))), ?_⟩
  rw [son_app, ptT]
  simp only [List.append_assoc]
theorem ptNoI (i t f : Int) (z : ByteArray) (h : ¬ (okPc i t f z ∧ z.size ≤ 1000)) (hz : z.size ≤ 1000000000) : Fn Try.prog 14 [prt i t f z] (.tup [.sc (.string ByteArray.empty), .sc (.bool false)]) := by
  refine Fn.run 50 [.tmp 2, .tmp 3] Try.func14 rfl rfl rfl rfl (by simp) (flats_cons (prt_flat _ _ _ _) flats_nil) (.tup (flats_cons (.sc _) (flats_cons (.sc _) flats_nil))) ?_
  by_cases hp : okPc i t f z
  · have hpp := pieceI i t f z true (by simp [hp]) hz
    have k1 : (1000 : Int) < z.size := by
      have : ¬ z.size ≤ 1000 := fun q => h ⟨hp, q⟩
      omega
    unfold prt at hpp ⊢
    simp -implicitDefEqProofs only [↓w_seq, ↓w_region, ↓ops_cons, ↓g_box, Nat.reduceLT, ev_tab, par0, cells_agg, ↓g_assign, ↓ops_nil, ev_const, of_str, of_bool, ↓g_load, ne_eq, Nat.reduceEqDiff, not_false_eq_true, upd_ne, upd_eq, alK_some, List.all_cons, one_int, one_str, List.all_nil, Bool.and_self, List.length_nil, List.nil_append, rd_def, tyOk27, agg27, cells27, List.getElem?_cons_zero, rd_aggc, Nat.zero_add, List.length_cons, Nat.reduceAdd, Nat.le_refl, List.drop_zero, List.take_succ_cons, List.take_zero, if_true, onS_some, true_and]
    refine call1 (by simp -implicitDefEqProofs only [List.map_cons, Nat.reduceLT, ev_tab, upd_eq, List.map_nil] <;> rfl) hpp ?_
    simp -implicitDefEqProofs only [↓ops_cons, ↓g_unOp, Nat.reduceLT, ev_tab, upd_eq, u_not, Bool.not_true, Option.map_some, ↓g_move, onS_some, yielded_tab, dstAt_s, dstAt_0, ybv_some, boolOf_b, ↓g_guard_t, ↓g_fieldAddrT, ne_eq, Nat.reduceEqDiff, not_false_eq_true, upd_ne, fadr27_3, Nat.zero_add, ↓g_load, ↓g_len, Try.underlying9, ↓g_binOp, ev_const, of_int, ↓g_pick, of_bool, pick_b, reduceCtorEq, if_false, ↓ops_nil, ↓w_cond, ↓w_seq, ↓w_region, ↓g_assign, ↓w_ret, of_str, ret_two, ↓w_skip, fadr27_0, fadr27_1, fadr27_2, ↓g_buildSlice, Try.underlying48, List.map_cons, List.map_nil, ↓w_block, rd_def, tyOk3, agg3, cells3, List.getElem?_cons_zero, rd_onec, List.getElem?_cons_succ, bs3_3, alK_some, ints_one, List.length_cons, List.length_nil, len_sl, Int.cast_ofNat_Int, List.cons_append, List.nil_append, true_and, tyOk9, agg9, cells9, len_str, b_gtr, k1, decide_true, onB_true]
    try rfl
  · have hpp := pieceI i t f z false (by simp [hp]) hz
    unfold prt at hpp ⊢
    simp -implicitDefEqProofs only [↓w_seq, ↓w_region, ↓ops_cons, ↓g_box, Nat.reduceLT, ev_tab, par0, cells_agg, ↓g_assign, ↓ops_nil, ev_const, of_str, of_bool, ↓g_load, ne_eq, Nat.reduceEqDiff, not_false_eq_true, upd_ne, upd_eq, alK_some, List.all_cons, one_int, one_str, List.all_nil, Bool.and_self, List.length_nil, List.nil_append, rd_def, tyOk27, agg27, cells27, List.getElem?_cons_zero, rd_aggc, Nat.zero_add, List.length_cons, Nat.reduceAdd, Nat.le_refl, List.drop_zero, List.take_succ_cons, List.take_zero, if_true, onS_some, true_and]
    refine call1 (by simp -implicitDefEqProofs only [List.map_cons, Nat.reduceLT, ev_tab, upd_eq, List.map_nil] <;> rfl) hpp ?_
    simp -implicitDefEqProofs only [↓ops_cons, ↓g_unOp, Nat.reduceLT, ev_tab, upd_eq, u_not, Bool.not_false, Option.map_some, ↓g_move, onS_some, yielded_tab, dstAt_s, dstAt_0, ybv_some, boolOf_b, ↓g_guard_f, ne_eq, Nat.reduceEqDiff, not_false_eq_true, upd_ne, ↓g_pick, ev_const, of_bool, pick_b, if_true, ↓ops_nil, ↓w_cond, ↓w_seq, ↓w_region, ↓g_assign, ↓w_ret, of_str, ret_two, ↓w_skip, ↓g_fieldAddrT, fadr27_0, Nat.zero_add, ↓g_load, fadr27_1, fadr27_2, ↓g_buildSlice, Try.underlying48, List.map_cons, List.map_nil, ↓g_len, ↓w_block, of_int, rd_def, tyOk3, agg3, cells3, List.getElem?_cons_zero, rd_onec, List.getElem?_cons_succ, bs3_3, alK_some, ints_one, List.length_cons, List.length_nil, len_sl, Int.cast_ofNat_Int, List.cons_append, List.nil_append, true_and, onB_true]
    try rfl
theorem ptNoS (i t f : Int) (z : ByteArray) (h : ¬ (okPc i t f z ∧ z.size ≤ 1000)) (hz : z.size ≤ 1000000000) : Fn Try.prog 12 [prt i t f z] (.tup [.sc (.string ByteArray.empty), .sc (.bool false)]) := by
  refine Fn.run 32 [.tmp 2, .tmp 3] Try.func12 rfl rfl rfl rfl (by simp) (flats_cons (prt_flat _ _ _ _) flats_nil) (.tup (flats_cons (.sc _) (flats_cons (.sc _) flats_nil))) ?_
  by_cases hp : okPc i t f z
  · have hpp := pieceS i t f z true (by simp [hp]) hz
    have k1 : (1000 : Int) < z.size := by
      have : ¬ z.size ≤ 1000 := fun q => h ⟨hp, q⟩
      omega
    unfold prt at hpp ⊢
    simp -implicitDefEqProofs only [↓w_seq, ↓w_region, ↓ops_cons, ↓g_box, Nat.reduceLT, ev_tab, par0, cells_agg, ↓g_assign, ↓ops_nil, ev_const, of_str, of_bool, ↓g_load, ne_eq, Nat.reduceEqDiff, not_false_eq_true, upd_ne, upd_eq, alK_some, List.all_cons, one_int, one_str, List.all_nil, Bool.and_self, List.length_nil, List.nil_append, rd_def, tyOk27, agg27, cells27, List.getElem?_cons_zero, rd_aggc, Nat.zero_add, List.length_cons, Nat.reduceAdd, Nat.le_refl, List.drop_zero, List.take_succ_cons, List.take_zero, if_true, onS_some, true_and]
    refine call1 (by simp -implicitDefEqProofs only [List.map_cons, Nat.reduceLT, ev_tab, upd_eq, List.map_nil] <;> rfl) hpp ?_
    simp -implicitDefEqProofs only [↓ops_cons, ↓g_unOp, Nat.reduceLT, ev_tab, upd_eq, u_not, Bool.not_true, Option.map_some, ↓g_move, onS_some, yielded_tab, dstAt_s, dstAt_0, ybv_some, boolOf_b, ↓g_guard_t, ↓g_fieldAddrT, ne_eq, Nat.reduceEqDiff, not_false_eq_true, upd_ne, fadr27_3, Nat.zero_add, ↓g_load, ↓g_len, Try.underlying9, ↓g_binOp, ev_const, of_int, ↓g_pick, of_bool, pick_b, reduceCtorEq, if_false, ↓ops_nil, ↓w_cond, ↓w_seq, ↓w_region, ↓g_assign, ↓w_ret, of_str, ret_two, ↓w_skip, rd_def, tyOk9, agg9, cells9, List.getElem?_cons_zero, rd_onec, List.getElem?_cons_succ, len_str, b_gtr, k1, decide_true, onB_true]
    try rfl
  · have hpp := pieceS i t f z false (by simp [hp]) hz
    unfold prt at hpp ⊢
    simp -implicitDefEqProofs only [↓w_seq, ↓w_region, ↓ops_cons, ↓g_box, Nat.reduceLT, ev_tab, par0, cells_agg, ↓g_assign, ↓ops_nil, ev_const, of_str, of_bool, ↓g_load, ne_eq, Nat.reduceEqDiff, not_false_eq_true, upd_ne, upd_eq, alK_some, List.all_cons, one_int, one_str, List.all_nil, Bool.and_self, List.length_nil, List.nil_append, rd_def, tyOk27, agg27, cells27, List.getElem?_cons_zero, rd_aggc, Nat.zero_add, List.length_cons, Nat.reduceAdd, Nat.le_refl, List.drop_zero, List.take_succ_cons, List.take_zero, if_true, onS_some, true_and]
    refine call1 (by simp -implicitDefEqProofs only [List.map_cons, Nat.reduceLT, ev_tab, upd_eq, List.map_nil] <;> rfl) hpp ?_
    simp -implicitDefEqProofs only [↓ops_cons, ↓g_unOp, Nat.reduceLT, ev_tab, upd_eq, u_not, Bool.not_false, Option.map_some, ↓g_move, onS_some, yielded_tab, dstAt_s, dstAt_0, ybv_some, boolOf_b, ↓g_guard_f, ne_eq, Nat.reduceEqDiff, not_false_eq_true, upd_ne, ↓g_pick, ev_const, of_bool, pick_b, if_true, ↓ops_nil, ↓w_cond, ↓w_seq, ↓w_region, ↓g_assign, ↓w_ret, of_str, ret_two, ↓w_skip, onB_true]
    try rfl
end Go.Proofs.Ytheeehbaholjmaa.Sim

