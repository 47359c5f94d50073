/- Sessions, outs: what the laws do with them. -/
import Derived.Test.YtfgmmklljibbiaaDoorFRws
namespace Go.Proofs.YtfgmmklljibbiaaDoor.Sim
open Go
set_option maxRecDepth 100000
set_option maxHeartbeats 4000000
set_option linter.unusedSimpArgs false
set_option linter.unusedVariables false
abbrev kWindow : List Kd := [.i .i64, .i .i64]
theorem encWindow : Enc (Rw.cs (ks := kWindow)) 2 := Rw.encs (by decide)
theorem rowWindow (r : Rw kWindow) : ∃ a0 a1, r.cs = [.sc (.int .i64 a0), .sc (.int .i64 a1)] := by
  have e0 := (r.int_at 0 (k := .i64) rfl).1
  have e1 := (r.int_at 1 (k := .i64) rfl).1
  have hl := r.cs_len
  refine ⟨r.int 0, r.int 1, ?_⟩
  generalize r.cs = z at *
  match z, hl with
  | [x0, x1], _ =>
    simp only [List.getElem?_cons_zero, List.getElem?_cons_succ, Option.some.injEq] at e0 e1
    rw [e0, e1]
theorem csWindow (r : Rw kWindow) : r.cs = [.sc (.int .i64 (r.int 0)), .sc (.int .i64 (r.int 1))] := by
  have e0 := (r.int_at 0 (k := .i64) rfl).1
  have e1 := (r.int_at 1 (k := .i64) rfl).1
  have hl := r.cs_len
  generalize r.cs = z at *
  match z, hl with
  | [x0, x1], _ =>
    simp only [List.getElem?_cons_zero, List.getElem?_cons_succ, Option.some.injEq] at e0 e1
    rw [e0, e1]
theorem toWindow0 (a0 : Int) (a1 : Int) : Fn Tryd.prog 62 [.agg [.sc (.int .i64 a0), .sc (.int .i64 a1)]] (.agg [.sc (.int .i64 a0), .sc (.int .i64 a1)]) := by
  refine Fn.run 11 [.cell 2 29] Tryd.func62 rfl rfl rfl rfl (by simp) (flats_cons (.agg ((flats_cons (.sc _) (flats_cons (.sc _) flats_nil)))) flats_nil) (.agg ((flats_cons (.sc _) (flats_cons (.sc _) flats_nil)))) ?_
  simp -implicitDefEqProofs only [↓w_seq, ↓w_region, ↓ops_cons, ↓g_box, Nat.reduceLT, ev_tab, par0, cells_agg, ↓g_alloc, zero29, Option.map_some, ↓ops_nil, ↓g_fieldAddrT, ne_eq, Nat.reduceEqDiff, not_false_eq_true, upd_ne, upd_eq, ↓g_load, ↓g_store, ↓w_ret, ret_cell, alK_some, List.all_cons, one_int, List.all_nil, Bool.and_self, fadr29_0, Nat.zero_add, fadr29_1, rd_def, tyOk29, agg29, cells29, onS_some, wr_def, tyOk3, cells3, at_end, wr_c, List.length_cons, List.length_nil, Nat.reduceAdd, Nat.reduceLeDiff, true_and, onS_ite, List.length_append, fadr23_0, List.nil_append, List.cons_append, fadr23_1, List.set_cons_succ, List.set_cons_zero, List.getElem?_cons_succ, List.getElem?_cons_zero, agg3, rd_onec, cells_int, and_self, ovC, ovN, Nat.le_refl, over_s, if_true, rd_aggc, List.drop_zero, List.take_succ_cons, List.take_zero]
theorem toWindow1 (r : Rw kWindow) : Fn Tryd.prog 62 [.agg r.cs] (.agg r.cs) := by
  obtain ⟨a0, a1, e⟩ := rowWindow r
  rw [e]
  exact toWindow0 a0 a1
theorem eqWindow0 (a0 : Int) (a1 : Int) : Fn Tryd.prog 92 [.agg [.sc (.int .i64 a0), .sc (.int .i64 a1)], .agg [.sc (.int .i64 a0), .sc (.int .i64 a1)]] (.sc (.bool true)) := by
  refine Fn.run 15 [.tmp 4] Tryd.func92 rfl rfl rfl rfl (by simp) (flats_cons (.agg ((flats_cons (.sc _) (flats_cons (.sc _) flats_nil)))) (flats_cons (.agg ((flats_cons (.sc _) (flats_cons (.sc _) flats_nil)))) flats_nil)) (.sc _) ?_
  simp -implicitDefEqProofs only [↓w_seq, ↓w_region, ↓ops_cons, ↓g_box, Nat.reduceLT, ev_tab, par0, cells_agg, ne_eq, Nat.reduceEqDiff, not_false_eq_true, upd_ne, par1, ↓g_assign, ↓ops_nil, ev_const, of_bool, ↓g_fieldAddrT, upd_eq, ↓g_load, ↓g_binOp, ↓w_cond, ↓w_ret, ret_one, ↓w_skip, alK_some, List.all_cons, one_int, List.all_nil, Bool.and_self, fadr29_0, Nat.zero_add, fadr29_1, onS_some, rd_def, tyOk3, agg3, cells3, at_end, rd_onec, List.getElem?_cons_succ, List.getElem?_cons_zero, true_and, List.length_nil, List.nil_append, List.cons_append, b_neq, decide_true, Bool.not_true, onB_false, and_self]
theorem eqWindow1 (r : Rw kWindow) : Fn Tryd.prog 92 [.agg r.cs, .agg r.cs] (.sc (.bool true)) := by
  obtain ⟨a0, a1, e⟩ := rowWindow r
  rw [e]
  exact eqWindow0 a0 a1
abbrev kChan : List Kd := [.i .i64, .i .i64, .i .i64, .i .i64, .i .i64, .i .i64, .i .i64, .i .i64, .i .i64]
theorem encChan : Enc (Rw.cs (ks := kChan)) 9 := Rw.encs (by decide)
theorem rowChan (r : Rw kChan) : ∃ a0 a1 a2 a3 a4 a5 a6 a7 a8, r.cs = [.sc (.int .i64 a0), .sc (.int .i64 a1), .sc (.int .i64 a2), .sc (.int .i64 a3), .sc (.int .i64 a4), .sc (.int .i64 a5), .sc (.int .i64 a6), .sc (.int .i64 a7), .sc (.int .i64 a8)] := by
  have e0 := (r.int_at 0 (k := .i64) rfl).1
  have e1 := (r.int_at 1 (k := .i64) rfl).1
  have e2 := (r.int_at 2 (k := .i64) rfl).1
  have e3 := (r.int_at 3 (k := .i64) rfl).1
  have e4 := (r.int_at 4 (k := .i64) rfl).1
  have e5 := (r.int_at 5 (k := .i64) rfl).1
  have e6 := (r.int_at 6 (k := .i64) rfl).1
  have e7 := (r.int_at 7 (k := .i64) rfl).1
  have e8 := (r.int_at 8 (k := .i64) rfl).1
  have hl := r.cs_len
  refine ⟨r.int 0, r.int 1, r.int 2, r.int 3, r.int 4, r.int 5, r.int 6, r.int 7, r.int 8, ?_⟩
  generalize r.cs = z at *
  match z, hl with
  | [x0, x1, x2, x3, x4, x5, x6, x7, x8], _ =>
    simp only [List.getElem?_cons_zero, List.getElem?_cons_succ, Option.some.injEq] at e0 e1 e2 e3 e4 e5 e6 e7 e8
    rw [e0, e1, e2, e3, e4, e5, e6, e7, e8]
theorem csChan (r : Rw kChan) : r.cs = [.sc (.int .i64 (r.int 0)), .sc (.int .i64 (r.int 1)), .sc (.int .i64 (r.int 2)), .sc (.int .i64 (r.int 3)), .sc (.int .i64 (r.int 4)), .sc (.int .i64 (r.int 5)), .sc (.int .i64 (r.int 6)), .sc (.int .i64 (r.int 7)), .sc (.int .i64 (r.int 8))] := by
  have e0 := (r.int_at 0 (k := .i64) rfl).1
  have e1 := (r.int_at 1 (k := .i64) rfl).1
  have e2 := (r.int_at 2 (k := .i64) rfl).1
  have e3 := (r.int_at 3 (k := .i64) rfl).1
  have e4 := (r.int_at 4 (k := .i64) rfl).1
  have e5 := (r.int_at 5 (k := .i64) rfl).1
  have e6 := (r.int_at 6 (k := .i64) rfl).1
  have e7 := (r.int_at 7 (k := .i64) rfl).1
  have e8 := (r.int_at 8 (k := .i64) rfl).1
  have hl := r.cs_len
  generalize r.cs = z at *
  match z, hl with
  | [x0, x1, x2, x3, x4, x5, x6, x7, x8], _ =>
    simp only [List.getElem?_cons_zero, List.getElem?_cons_succ, Option.some.injEq] at e0 e1 e2 e3 e4 e5 e6 e7 e8
    rw [e0, e1, e2, e3, e4, e5, e6, e7, e8]
theorem toChan0 (a0 : Int) (a1 : Int) (a2 : Int) (a3 : Int) (a4 : Int) (a5 : Int) (a6 : Int) (a7 : Int) (a8 : Int) : Fn Tryd.prog 27 [.agg [.sc (.int .i64 a0), .sc (.int .i64 a1), .sc (.int .i64 a2), .sc (.int .i64 a3), .sc (.int .i64 a4), .sc (.int .i64 a5), .sc (.int .i64 a6), .sc (.int .i64 a7), .sc (.int .i64 a8)]] (.agg [.sc (.int .i64 a0), .sc (.int .i64 a1), .sc (.int .i64 a2), .sc (.int .i64 a3), .sc (.int .i64 a4), .sc (.int .i64 a5), .sc (.int .i64 a6), .sc (.int .i64 a7), .sc (.int .i64 a8)]) := by
  refine Fn.run 28 [.cell 2 31] Tryd.func27 rfl rfl rfl rfl (by simp) (flats_cons (.agg ((flats_cons (.sc _) (flats_cons (.sc _) (flats_cons (.sc _) (flats_cons (.sc _) (flats_cons (.sc _) (flats_cons (.sc _) (flats_cons (.sc _) (flats_cons (.sc _) (flats_cons (.sc _) flats_nil))))))))))) flats_nil) (.agg ((flats_cons (.sc _) (flats_cons (.sc _) (flats_cons (.sc _) (flats_cons (.sc _) (flats_cons (.sc _) (flats_cons (.sc _) (flats_cons (.sc _) (flats_cons (.sc _) (flats_cons (.sc _) flats_nil))))))))))) ?_
  simp -implicitDefEqProofs only [↓w_seq, ↓w_region, ↓ops_cons, ↓g_box, Nat.reduceLT, ev_tab, par0, cells_agg, ↓g_alloc, zero31, Option.map_some, ↓ops_nil, ↓g_fieldAddrT, ne_eq, Nat.reduceEqDiff, not_false_eq_true, upd_ne, upd_eq, ↓g_load, ↓g_store, alK_some, List.all_cons, one_int, List.all_nil, Bool.and_self, fadr31_0, Nat.zero_add, fadr31_1, fadr31_2, fadr31_3, fadr31_4, onS_some, wr_def, tyOk3, cells3, at_end, wr_c, List.length_cons, List.length_nil, Nat.reduceAdd, Nat.reduceLeDiff, true_and, onS_ite, List.length_append, fadr25_0, List.nil_append, List.cons_append, fadr25_1, List.set_cons_succ, List.set_cons_zero, List.getElem?_cons_succ, List.getElem?_cons_zero, fadr25_2, fadr25_3, fadr25_4, fadr25_5, rd_def, tyOk23, agg23, cells23, agg3, rd_onec, cells_int, and_self, ovC, ovN, over_s, if_true, rd_aggc, List.drop_succ_cons, List.drop_zero, List.take_succ_cons, List.take_zero, and_true]
  refine call1 (by simp -implicitDefEqProofs only [List.map_cons, Nat.reduceLT, ev_tab, upd_eq, List.map_nil] <;> rfl) (toWindow0 a5 a6) ?_
  simp -implicitDefEqProofs only [↓ops_cons, ↓g_fieldAddrT, Nat.reduceLT, ev_tab, ne_eq, Nat.reduceEqDiff, not_false_eq_true, upd_ne, upd_eq, fadr31_5, Nat.zero_add, ↓g_store, ↓ops_nil, ↓w_seq, ↓w_region, fadr25_6, ↓g_load, onS_some, rd_def, tyOk23, agg23, cells23, wr_def, tyOk29, cells29, List.getElem?_cons_succ, List.getElem?_cons_zero, wr_c, cells_agg, List.length_cons, List.length_nil, Nat.reduceAdd, Nat.reduceLeDiff, List.all_cons, one_int, List.all_nil, Bool.and_self, and_self, over_s, ovC, ovN, List.set_cons_succ, List.set_cons_zero, if_true, rd_aggc, Nat.le_refl, List.drop_succ_cons, List.drop_zero, List.take_succ_cons, List.take_zero]
  refine call1 (by simp -implicitDefEqProofs only [List.map_cons, Nat.reduceLT, ev_tab, upd_eq, List.map_nil] <;> rfl) (toWindow0 a7 a8) ?_
  simp -implicitDefEqProofs only [↓ops_cons, ↓g_fieldAddrT, Nat.reduceLT, ev_tab, ne_eq, Nat.reduceEqDiff, not_false_eq_true, upd_ne, upd_eq, fadr31_6, Nat.zero_add, ↓g_store, ↓ops_nil, ↓w_seq, ↓w_region, ↓g_load, rd_def, tyOk31, agg31, cells31, wr_def, ↓w_ret, ret_cell, onS_some, tyOk29, cells29, List.getElem?_cons_succ, List.getElem?_cons_zero, wr_c, cells_agg, List.length_cons, List.length_nil, Nat.reduceAdd, Nat.le_refl, List.all_cons, one_int, List.all_nil, Bool.and_self, and_self, over_s, ovC, ovN, List.set_cons_succ, List.set_cons_zero, if_true, rd_aggc, List.drop_zero, List.take_succ_cons, List.take_zero, true_and, onS_ite]
theorem toChan1 (r : Rw kChan) : Fn Tryd.prog 27 [.agg r.cs] (.agg r.cs) := by
  obtain ⟨a0, a1, a2, a3, a4, a5, a6, a7, a8, e⟩ := rowChan r
  rw [e]
  exact toChan0 a0 a1 a2 a3 a4 a5 a6 a7 a8
theorem eqChan0 (a0 : Int) (a1 : Int) (a2 : Int) (a3 : Int) (a4 : Int) (a5 : Int) (a6 : Int) (a7 : Int) (a8 : Int) : Fn Tryd.prog 89 [.agg [.sc (.int .i64 a0), .sc (.int .i64 a1), .sc (.int .i64 a2), .sc (.int .i64 a3), .sc (.int .i64 a4), .sc (.int .i64 a5), .sc (.int .i64 a6), .sc (.int .i64 a7), .sc (.int .i64 a8)], .agg [.sc (.int .i64 a0), .sc (.int .i64 a1), .sc (.int .i64 a2), .sc (.int .i64 a3), .sc (.int .i64 a4), .sc (.int .i64 a5), .sc (.int .i64 a6), .sc (.int .i64 a7), .sc (.int .i64 a8)]] (.sc (.bool true)) := by
  refine Fn.run 42 [.tmp 4] Tryd.func89 rfl rfl rfl rfl (by simp) (flats_cons (.agg ((flats_cons (.sc _) (flats_cons (.sc _) (flats_cons (.sc _) (flats_cons (.sc _) (flats_cons (.sc _) (flats_cons (.sc _) (flats_cons (.sc _) (flats_cons (.sc _) (flats_cons (.sc _) flats_nil))))))))))) (flats_cons (.agg ((flats_cons (.sc _) (flats_cons (.sc _) (flats_cons (.sc _) (flats_cons (.sc _) (flats_cons (.sc _) (flats_cons (.sc _) (flats_cons (.sc _) (flats_cons (.sc _) (flats_cons (.sc _) flats_nil))))))))))) flats_nil)) (.sc _) ?_
  simp -implicitDefEqProofs only [↓w_seq, ↓w_region, ↓ops_cons, ↓g_box, Nat.reduceLT, ev_tab, par0, cells_agg, ne_eq, Nat.reduceEqDiff, not_false_eq_true, upd_ne, par1, ↓g_assign, ↓ops_nil, ev_const, of_bool, ↓g_fieldAddrT, upd_eq, ↓g_load, ↓g_binOp, ↓w_cond, ↓w_ret, ret_one, ↓w_skip, alK_some, List.all_cons, one_int, List.all_nil, Bool.and_self, fadr31_0, Nat.zero_add, fadr31_1, fadr31_2, fadr31_3, fadr31_4, fadr31_5, onS_some, rd_def, tyOk29, agg29, cells29, at_end, rd_aggc, Nat.reduceAdd, List.length_cons, List.length_nil, Nat.reduceLeDiff, List.drop_succ_cons, List.drop_zero, List.take_succ_cons, List.take_zero, if_true, tyOk3, agg3, cells3, rd_onec, List.getElem?_cons_succ, List.getElem?_cons_zero, true_and, List.nil_append, List.cons_append, b_neq, decide_true, Bool.not_true, onB_false]
  refine call1 (by simp -implicitDefEqProofs only [List.map_cons, Nat.reduceLT, ev_tab, ne_eq, Nat.reduceEqDiff, not_false_eq_true, upd_ne, upd_eq, List.map_nil] <;> rfl) (eqWindow0 a5 a6) ?_
  simp -implicitDefEqProofs only [↓ops_cons, ↓g_unOp, Nat.reduceLT, ev_tab, upd_eq, u_not, Bool.not_true, Option.map_some, ↓ops_nil, ↓w_cond, ↓w_seq, ↓w_region, ↓g_assign, ↓w_ret, ev_const, of_bool, ret_one, ↓w_skip, ↓g_fieldAddrT, ne_eq, Nat.reduceEqDiff, not_false_eq_true, upd_ne, fadr31_6, Nat.zero_add, ↓g_load, onS_some, rd_def, tyOk29, agg29, cells29, List.getElem?_cons_succ, List.getElem?_cons_zero, rd_aggc, Nat.reduceAdd, List.length_cons, List.length_nil, Nat.le_refl, List.drop_succ_cons, List.drop_zero, List.take_succ_cons, List.take_zero, if_true, onB_false]
  refine call1 (by simp -implicitDefEqProofs only [List.map_cons, Nat.reduceLT, ev_tab, ne_eq, Nat.reduceEqDiff, not_false_eq_true, upd_ne, upd_eq, List.map_nil] <;> rfl) (eqWindow0 a7 a8) ?_
  simp -implicitDefEqProofs only [↓ops_cons, ↓g_unOp, Nat.reduceLT, ev_tab, upd_eq, u_not, Bool.not_true, Option.map_some, ↓ops_nil, ↓w_cond, ↓w_seq, ↓w_region, ↓g_assign, ↓w_ret, ev_const, of_bool, ret_one, ↓w_skip, onS_some, onB_false]
theorem eqChan1 (r : Rw kChan) : Fn Tryd.prog 89 [.agg r.cs, .agg r.cs] (.sc (.bool true)) := by
  obtain ⟨a0, a1, a2, a3, a4, a5, a6, a7, a8, e⟩ := rowChan r
  rw [e]
  exact eqChan0 a0 a1 a2 a3 a4 a5 a6 a7 a8
abbrev kSess : List Kd := [.i .i64, .i .i64, .i .i64, .i .i64, .i .i64, .i .i64, .i .i64, .i .i64, .i .i64, .i .i64, .i .i64, .i .i64, .i .i64, .i .i64, .i .i64, .i .i64, .i .i64, .i .i64, .i .i64, .i .i64]
theorem encSess : Enc (Rw.cs (ks := kSess)) 20 := Rw.encs (by decide)
theorem rowSess (r : Rw kSess) : ∃ a0 a1 a2 a3 a4 a5 a6 a7 a8 a9 a10 a11 a12 a13 a14 a15 a16 a17 a18 a19, r.cs = [.sc (.int .i64 a0), .sc (.int .i64 a1), .sc (.int .i64 a2), .sc (.int .i64 a3), .sc (.int .i64 a4), .sc (.int .i64 a5), .sc (.int .i64 a6), .sc (.int .i64 a7), .sc (.int .i64 a8), .sc (.int .i64 a9), .sc (.int .i64 a10), .sc (.int .i64 a11), .sc (.int .i64 a12), .sc (.int .i64 a13), .sc (.int .i64 a14), .sc (.int .i64 a15), .sc (.int .i64 a16), .sc (.int .i64 a17), .sc (.int .i64 a18), .sc (.int .i64 a19)] := by
  have e0 := (r.int_at 0 (k := .i64) rfl).1
  have e1 := (r.int_at 1 (k := .i64) rfl).1
  have e2 := (r.int_at 2 (k := .i64) rfl).1
  have e3 := (r.int_at 3 (k := .i64) rfl).1
  have e4 := (r.int_at 4 (k := .i64) rfl).1
  have e5 := (r.int_at 5 (k := .i64) rfl).1
  have e6 := (r.int_at 6 (k := .i64) rfl).1
  have e7 := (r.int_at 7 (k := .i64) rfl).1
  have e8 := (r.int_at 8 (k := .i64) rfl).1
  have e9 := (r.int_at 9 (k := .i64) rfl).1
  have e10 := (r.int_at 10 (k := .i64) rfl).1
  have e11 := (r.int_at 11 (k := .i64) rfl).1
  have e12 := (r.int_at 12 (k := .i64) rfl).1
  have e13 := (r.int_at 13 (k := .i64) rfl).1
  have e14 := (r.int_at 14 (k := .i64) rfl).1
  have e15 := (r.int_at 15 (k := .i64) rfl).1
  have e16 := (r.int_at 16 (k := .i64) rfl).1
  have e17 := (r.int_at 17 (k := .i64) rfl).1
  have e18 := (r.int_at 18 (k := .i64) rfl).1
  have e19 := (r.int_at 19 (k := .i64) rfl).1
  have hl := r.cs_len
  refine ⟨r.int 0, r.int 1, r.int 2, r.int 3, r.int 4, r.int 5, r.int 6, r.int 7, r.int 8, r.int 9, r.int 10, r.int 11, r.int 12, r.int 13, r.int 14, r.int 15, r.int 16, r.int 17, r.int 18, r.int 19, ?_⟩
  generalize r.cs = z at *
  match z, hl with
  | [x0, x1, x2, x3, x4, x5, x6, x7, x8, x9, x10, x11, x12, x13, x14, x15, x16, x17, x18, x19], _ =>
    simp only [List.getElem?_cons_zero, List.getElem?_cons_succ, Option.some.injEq] at e0 e1 e2 e3 e4 e5 e6 e7 e8 e9 e10 e11 e12 e13 e14 e15 e16 e17 e18 e19
    rw [e0, e1, e2, e3, e4, e5, e6, e7, e8, e9, e10, e11, e12, e13, e14, e15, e16, e17, e18, e19]
theorem csSess (r : Rw kSess) : r.cs = [.sc (.int .i64 (r.int 0)), .sc (.int .i64 (r.int 1)), .sc (.int .i64 (r.int 2)), .sc (.int .i64 (r.int 3)), .sc (.int .i64 (r.int 4)), .sc (.int .i64 (r.int 5)), .sc (.int .i64 (r.int 6)), .sc (.int .i64 (r.int 7)), .sc (.int .i64 (r.int 8)), .sc (.int .i64 (r.int 9)), .sc (.int .i64 (r.int 10)), .sc (.int .i64 (r.int 11)), .sc (.int .i64 (r.int 12)), .sc (.int .i64 (r.int 13)), .sc (.int .i64 (r.int 14)), .sc (.int .i64 (r.int 15)), .sc (.int .i64 (r.int 16)), .sc (.int .i64 (r.int 17)), .sc (.int .i64 (r.int 18)), .sc (.int .i64 (r.int 19))] := by
  have e0 := (r.int_at 0 (k := .i64) rfl).1
  have e1 := (r.int_at 1 (k := .i64) rfl).1
  have e2 := (r.int_at 2 (k := .i64) rfl).1
  have e3 := (r.int_at 3 (k := .i64) rfl).1
  have e4 := (r.int_at 4 (k := .i64) rfl).1
  have e5 := (r.int_at 5 (k := .i64) rfl).1
  have e6 := (r.int_at 6 (k := .i64) rfl).1
  have e7 := (r.int_at 7 (k := .i64) rfl).1
  have e8 := (r.int_at 8 (k := .i64) rfl).1
  have e9 := (r.int_at 9 (k := .i64) rfl).1
  have e10 := (r.int_at 10 (k := .i64) rfl).1
  have e11 := (r.int_at 11 (k := .i64) rfl).1
  have e12 := (r.int_at 12 (k := .i64) rfl).1
  have e13 := (r.int_at 13 (k := .i64) rfl).1
  have e14 := (r.int_at 14 (k := .i64) rfl).1
  have e15 := (r.int_at 15 (k := .i64) rfl).1
  have e16 := (r.int_at 16 (k := .i64) rfl).1
  have e17 := (r.int_at 17 (k := .i64) rfl).1
  have e18 := (r.int_at 18 (k := .i64) rfl).1
  have e19 := (r.int_at 19 (k := .i64) rfl).1
  have hl := r.cs_len
  generalize r.cs = z at *
  match z, hl with
  | [x0, x1, x2, x3, x4, x5, x6, x7, x8, x9, x10, x11, x12, x13, x14, x15, x16, x17, x18, x19], _ =>
    simp only [List.getElem?_cons_zero, List.getElem?_cons_succ, Option.some.injEq] at e0 e1 e2 e3 e4 e5 e6 e7 e8 e9 e10 e11 e12 e13 e14 e15 e16 e17 e18 e19
    rw [e0, e1, e2, e3, e4, e5, e6, e7, e8, e9, e10, e11, e12, e13, e14, e15, e16, e17, e18, e19]
theorem toSess0 (a0 : Int) (a1 : Int) (a2 : Int) (a3 : Int) (a4 : Int) (a5 : Int) (a6 : Int) (a7 : Int) (a8 : Int) (a9 : Int) (a10 : Int) (a11 : Int) (a12 : Int) (a13 : Int) (a14 : Int) (a15 : Int) (a16 : Int) (a17 : Int) (a18 : Int) (a19 : Int) : Fn Tryd.prog 73 [.agg [.sc (.int .i64 a0), .sc (.int .i64 a1), .sc (.int .i64 a2), .sc (.int .i64 a3), .sc (.int .i64 a4), .sc (.int .i64 a5), .sc (.int .i64 a6), .sc (.int .i64 a7), .sc (.int .i64 a8), .sc (.int .i64 a9), .sc (.int .i64 a10), .sc (.int .i64 a11), .sc (.int .i64 a12), .sc (.int .i64 a13), .sc (.int .i64 a14), .sc (.int .i64 a15), .sc (.int .i64 a16), .sc (.int .i64 a17), .sc (.int .i64 a18), .sc (.int .i64 a19)]] (.agg [.sc (.int .i64 a0), .sc (.int .i64 a1), .sc (.int .i64 a2), .sc (.int .i64 a3), .sc (.int .i64 a4), .sc (.int .i64 a5), .sc (.int .i64 a6), .sc (.int .i64 a7), .sc (.int .i64 a8), .sc (.int .i64 a9), .sc (.int .i64 a10), .sc (.int .i64 a11), .sc (.int .i64 a12), .sc (.int .i64 a13), .sc (.int .i64 a14), .sc (.int .i64 a15), .sc (.int .i64 a16), .sc (.int .i64 a17), .sc (.int .i64 a18), .sc (.int .i64 a19)]) := by
  refine Fn.run 42 [.cell 2 95] Tryd.func73 rfl rfl rfl rfl (by simp) (flats_cons (.agg ((flats_cons (.sc _) (flats_cons (.sc _) (flats_cons (.sc _) (flats_cons (.sc _) (flats_cons (.sc _) (flats_cons (.sc _) (flats_cons (.sc _) (flats_cons (.sc _) (flats_cons (.sc _) (flats_cons (.sc _) (flats_cons (.sc _) (flats_cons (.sc _) (flats_cons (.sc _) (flats_cons (.sc _) (flats_cons (.sc _) (flats_cons (.sc _) (flats_cons (.sc _) (flats_cons (.sc _) (flats_cons (.sc _) (flats_cons (.sc _) flats_nil)))))))))))))))))))))) flats_nil) (.agg ((flats_cons (.sc _) (flats_cons (.sc _) (flats_cons (.sc _) (flats_cons (.sc _) (flats_cons (.sc _) (flats_cons (.sc _) (flats_cons (.sc _) (flats_cons (.sc _) (flats_cons (.sc _) (flats_cons (.sc _) (flats_cons (.sc _) (flats_cons (.sc _) (flats_cons (.sc _) (flats_cons (.sc _) (flats_cons (.sc _) (flats_cons (.sc _) (flats_cons (.sc _) (flats_cons (.sc _) (flats_cons (.sc _) (flats_cons (.sc _) flats_nil)))))))))))))))))))))) ?_
  simp -implicitDefEqProofs only [↓w_seq, ↓w_region, ↓ops_cons, ↓g_box, Nat.reduceLT, ev_tab, par0, cells_agg, ↓g_alloc, zero95, Option.map_some, ↓ops_nil, ↓g_fieldAddrT, ne_eq, Nat.reduceEqDiff, not_false_eq_true, upd_ne, upd_eq, ↓g_load, ↓g_store, alK_some, List.all_cons, one_int, List.all_nil, Bool.and_self, fadr95_0, Nat.zero_add, fadr95_1, fadr95_2, fadr95_3, fadr95_4, fadr95_5, fadr95_6, fadr95_7, fadr95_8, fadr95_9, onS_some, wr_def, tyOk3, cells3, at_end, wr_c, List.length_cons, List.length_nil, Nat.reduceAdd, Nat.reduceLeDiff, true_and, onS_ite, List.length_append, fadr133_0, List.nil_append, List.cons_append, fadr133_1, List.set_cons_succ, List.set_cons_zero, List.getElem?_cons_succ, List.getElem?_cons_zero, fadr133_2, fadr133_3, fadr133_4, fadr133_5, fadr133_6, fadr133_7, fadr133_8, fadr133_9, fadr133_10, rd_def, tyOk25, agg25, cells25, agg3, rd_onec, cells_int, and_self, ovC, ovN, over_s, if_true, rd_aggc, List.drop_succ_cons, List.drop_zero, List.take_succ_cons, List.take_zero, and_true]
  refine call1 (by simp -implicitDefEqProofs only [List.map_cons, Nat.reduceLT, ev_tab, upd_eq, List.map_nil] <;> rfl) (toChan0 a10 a11 a12 a13 a14 a15 a16 a17 a18) ?_
  simp -implicitDefEqProofs only [↓ops_cons, ↓g_fieldAddrT, Nat.reduceLT, ev_tab, ne_eq, Nat.reduceEqDiff, not_false_eq_true, upd_ne, upd_eq, fadr95_10, Nat.zero_add, ↓g_store, ↓ops_nil, ↓w_seq, ↓w_region, fadr133_11, ↓g_load, fadr95_11, rd_def, tyOk95, agg95, cells95, wr_def, ↓w_ret, ret_cell, onS_some, tyOk3, cells3, agg3, tyOk31, cells31, List.getElem?_cons_succ, List.getElem?_cons_zero, wr_c, cells_agg, List.length_cons, List.length_nil, Nat.reduceAdd, Nat.reduceLeDiff, List.all_cons, one_int, List.all_nil, Bool.and_self, and_self, over_s, ovC, ovN, List.set_cons_succ, List.set_cons_zero, if_true, rd_onec, Nat.le_refl, true_and, onS_ite, rd_aggc, List.drop_zero, List.take_succ_cons, cells_int, List.take_zero]
theorem toSess1 (r : Rw kSess) : Fn Tryd.prog 73 [.agg r.cs] (.agg r.cs) := by
  obtain ⟨a0, a1, a2, a3, a4, a5, a6, a7, a8, a9, a10, a11, a12, a13, a14, a15, a16, a17, a18, a19, e⟩ := rowSess r
  rw [e]
  exact toSess0 a0 a1 a2 a3 a4 a5 a6 a7 a8 a9 a10 a11 a12 a13 a14 a15 a16 a17 a18 a19
theorem eqSess0 (a0 : Int) (a1 : Int) (a2 : Int) (a3 : Int) (a4 : Int) (a5 : Int) (a6 : Int) (a7 : Int) (a8 : Int) (a9 : Int) (a10 : Int) (a11 : Int) (a12 : Int) (a13 : Int) (a14 : Int) (a15 : Int) (a16 : Int) (a17 : Int) (a18 : Int) (a19 : Int) : Fn Tryd.prog 77 [.agg [.sc (.int .i64 a0), .sc (.int .i64 a1), .sc (.int .i64 a2), .sc (.int .i64 a3), .sc (.int .i64 a4), .sc (.int .i64 a5), .sc (.int .i64 a6), .sc (.int .i64 a7), .sc (.int .i64 a8), .sc (.int .i64 a9), .sc (.int .i64 a10), .sc (.int .i64 a11), .sc (.int .i64 a12), .sc (.int .i64 a13), .sc (.int .i64 a14), .sc (.int .i64 a15), .sc (.int .i64 a16), .sc (.int .i64 a17), .sc (.int .i64 a18), .sc (.int .i64 a19)], .agg [.sc (.int .i64 a0), .sc (.int .i64 a1), .sc (.int .i64 a2), .sc (.int .i64 a3), .sc (.int .i64 a4), .sc (.int .i64 a5), .sc (.int .i64 a6), .sc (.int .i64 a7), .sc (.int .i64 a8), .sc (.int .i64 a9), .sc (.int .i64 a10), .sc (.int .i64 a11), .sc (.int .i64 a12), .sc (.int .i64 a13), .sc (.int .i64 a14), .sc (.int .i64 a15), .sc (.int .i64 a16), .sc (.int .i64 a17), .sc (.int .i64 a18), .sc (.int .i64 a19)]] (.sc (.bool true)) := by
  refine Fn.run 66 [.tmp 4] Tryd.func77 rfl rfl rfl rfl (by simp) (flats_cons (.agg ((flats_cons (.sc _) (flats_cons (.sc _) (flats_cons (.sc _) (flats_cons (.sc _) (flats_cons (.sc _) (flats_cons (.sc _) (flats_cons (.sc _) (flats_cons (.sc _) (flats_cons (.sc _) (flats_cons (.sc _) (flats_cons (.sc _) (flats_cons (.sc _) (flats_cons (.sc _) (flats_cons (.sc _) (flats_cons (.sc _) (flats_cons (.sc _) (flats_cons (.sc _) (flats_cons (.sc _) (flats_cons (.sc _) (flats_cons (.sc _) flats_nil)))))))))))))))))))))) (flats_cons (.agg ((flats_cons (.sc _) (flats_cons (.sc _) (flats_cons (.sc _) (flats_cons (.sc _) (flats_cons (.sc _) (flats_cons (.sc _) (flats_cons (.sc _) (flats_cons (.sc _) (flats_cons (.sc _) (flats_cons (.sc _) (flats_cons (.sc _) (flats_cons (.sc _) (flats_cons (.sc _) (flats_cons (.sc _) (flats_cons (.sc _) (flats_cons (.sc _) (flats_cons (.sc _) (flats_cons (.sc _) (flats_cons (.sc _) (flats_cons (.sc _) flats_nil)))))))))))))))))))))) flats_nil)) (.sc _) ?_
  simp -implicitDefEqProofs only [↓w_seq, ↓w_region, ↓ops_cons, ↓g_box, Nat.reduceLT, ev_tab, par0, cells_agg, ne_eq, Nat.reduceEqDiff, not_false_eq_true, upd_ne, par1, ↓g_assign, ↓ops_nil, ev_const, of_bool, ↓g_fieldAddrT, upd_eq, ↓g_load, ↓g_binOp, ↓w_cond, ↓w_ret, ret_one, ↓w_skip, alK_some, List.all_cons, one_int, List.all_nil, Bool.and_self, fadr95_0, Nat.zero_add, fadr95_1, fadr95_2, fadr95_3, fadr95_4, fadr95_5, fadr95_6, fadr95_7, fadr95_8, fadr95_9, fadr95_10, onS_some, rd_def, tyOk31, agg31, cells31, at_end, rd_aggc, Nat.reduceAdd, List.length_cons, List.length_nil, Nat.reduceLeDiff, List.drop_succ_cons, List.drop_zero, List.take_succ_cons, List.take_zero, if_true, tyOk3, agg3, cells3, rd_onec, List.getElem?_cons_succ, List.getElem?_cons_zero, true_and, List.nil_append, List.cons_append, b_neq, decide_true, Bool.not_true, onB_false]
  refine call1 (by simp -implicitDefEqProofs only [List.map_cons, Nat.reduceLT, ev_tab, ne_eq, Nat.reduceEqDiff, not_false_eq_true, upd_ne, upd_eq, List.map_nil] <;> rfl) (eqChan0 a10 a11 a12 a13 a14 a15 a16 a17 a18) ?_
  simp -implicitDefEqProofs only [↓ops_cons, ↓g_unOp, Nat.reduceLT, ev_tab, upd_eq, u_not, Bool.not_true, Option.map_some, ↓ops_nil, ↓w_cond, ↓w_seq, ↓w_region, ↓g_assign, ↓w_ret, ev_const, of_bool, ret_one, ↓w_skip, ↓g_fieldAddrT, ne_eq, Nat.reduceEqDiff, not_false_eq_true, upd_ne, fadr95_11, Nat.zero_add, ↓g_load, ↓g_binOp, onS_some, rd_def, tyOk3, agg3, cells3, List.getElem?_cons_succ, List.getElem?_cons_zero, rd_onec, b_neq, decide_true, onB_false]
theorem eqSess1 (r : Rw kSess) : Fn Tryd.prog 77 [.agg r.cs, .agg r.cs] (.sc (.bool true)) := by
  obtain ⟨a0, a1, a2, a3, a4, a5, a6, a7, a8, a9, a10, a11, a12, a13, a14, a15, a16, a17, a18, a19, e⟩ := rowSess r
  rw [e]
  exact eqSess0 a0 a1 a2 a3 a4 a5 a6 a7 a8 a9 a10 a11 a12 a13 a14 a15 a16 a17 a18 a19
theorem szSessSS {H : AHeap} {x : AV} {l : List (Rw kSess)} (n : Int) (hn : 0 ≤ n ∧ n ≤ 1048576) (hx : IsR H x l) (hl : l.length ≤ 9223372036854775807) : Sound Tryd.prog 37 [x, .sc (.int .i64 n)] H (.sc (.int .i64 (if n - (l.length : Int) < 0 then -1 else n - l.length))) H := by
  refine Sound.run 12 [.tmp 4] Tryd.func37 rfl rfl rfl rfl (by simp) ?_
  have lx := fun e => hx.len e
  have e1 : IntKind.i64.wrap (n - (l.length : Int)) = n - l.length := w64 (by omega) (by omega)
  simp -implicitDefEqProofs only [↓w_seq, ↓w_region, Int.reduceNeg, ↓ops_cons, ↓g_assign, ↓ops_nil, ev_const, of_int, ↓g_move, ↓g_len, Tryd.underlying47, Nat.reduceLT, ev_tab, ne_eq, Nat.reduceEqDiff, not_false_eq_true, upd_ne, par1, reduceCtorEq, par0, upd_eq, lx, ↓g_binOp, ↓w_cond, ↓w_ret, ret_one, and_true, ↓w_skip, onS_some, b_sub, e1, b_lss, onB_dec]
  split <;> rfl
theorem toSessSS {H : AHeap} {x : AV} {l : List (Rw kSess)} (hx : IsR H x l) (hl : l.length ≤ 1048576) : Sound Tryd.prog 42 [x] H (.sl H.length 0 l.length 20) (H ++ [⟨rows Rw.cs l, true, true⟩]) := by
  refine Sound.run 23 [.tmp 2] Tryd.func42 rfl rfl rfl rfl (by simp) ?_
  have lx := fun e => hx.len e
  have k0 : ∀ j : Nat, (0 : Int) ≤ (j : Int) := fun j => by omega
  have k1 : (l.length : Int) ≤ 1048576 := by omega
  have mk := mk_rows (P := Tryd.prog) (Rw.zero kSess) 95 .i64 .i64 (l.length : Int) 160 encSess (by kernel_rfl) (by kernel_rfl) (by kernel_rfl) (by omega) (by omega) (by omega)
  have ra := rows_all encSess (List.replicate l.length (Rw.zero kSess))
  simp -implicitDefEqProofs only [↓w_seq, ↓w_region, ↓ops_cons, ↓g_assign, ↓ops_nil, ev_const, ↓g_move, ↓g_len, Tryd.underlying47, Nat.reduceLT, ev_tab, ne_eq, reduceCtorEq, not_false_eq_true, upd_ne, par0, upd_eq, lx, ↓g_makeSlice, Tryd.underlying55, ↓w_block, of_int, onS_some, mk, Int.toNat_natCast, alK_some, ra, true_and]
  refine w_loop (ι := Nat) (fun i s => ∃ T : Nat → AV, s = ⟨tab 23 T, H ++ [⟨rows Rw.cs (l.take i ++ List.replicate (l.length - i) (Rw.zero kSess)), true, true⟩]⟩ ∧ i ≤ l.length ∧ T 0 = x ∧ T 3 = .sl H.length 0 l.length 20 ∧ T 4 = .sc (.int .i64 i)) (fun i => l.length - i) ?_ (i := 0) ?_
  · rintro i s ⟨T, rfl, a1, a2, a3, a4⟩
    by_cases h : i < l.length
    · have k2 : (i : Int) < l.length := by omega
      have e1 : IntKind.i64.wrap ((i : Int) + 1) = i + 1 := w64 (by omega) (by omega)
      obtain ⟨r, o, rfl, hr⟩ := hx.get h
      have hrl : r < H.length := (List.getElem?_eq_some_iff.1 hr).1
      have hm := at_more H [⟨rows Rw.cs (l.take i ++ List.replicate (l.length - i) (Rw.zero kSess)), true, true⟩] r hrl
      rw [hr] at hm
      have ha : l[i]? = some l[i] := List.getElem?_eq_getElem h
      generalize l[i] = p at ha
      have rr := fun o => rd_row encSess ha o
      have ww := fun (G : AHeap) => wr_row (H := G) (l := l.take i ++ List.replicate (l.length - i) (Rw.zero kSess)) encSess (i := i) (by simp; omega) H.length p
      have cp := cpy_row (Rw.zero kSess) l i p ha
      have hse : ∀ g h : Reg, (H ++ [g]).set H.length h = H ++ [h] := fun g h => by simp
      have kl : kSess.length = 20 := rfl
      simp -implicitDefEqProofs only [↓w_seq, ↓w_region, List.length_cons, List.length_nil, Nat.zero_add, Nat.reduceAdd, ↓ops_cons, ↓g_move, ↓g_len, Tryd.underlying47, Nat.reduceLT, ev_tab, a4, ne_eq, reduceCtorEq, not_false_eq_true, upd_ne, a2, upd_eq, len_sl, ↓g_binOp, Nat.reduceEqDiff, ↓ops_nil, ↓w_cond, ↓w_skip, ↓w_block, ↓g_indexAddr, a3, adr_sl, k2, cells133, tyOk133, and_self, and_true, ↓g_load, onS_ite, rd_def, agg133, ↓w_exit, ↓g_assign, ↓w_ret, ret_one, true_and, if_true, onS_some, b_lss, decide_true, onB_true]
      try refine drawn [(5, 0)] follows (by kernel_rfl) (by kernel_rfl) ?_
      simp -implicitDefEqProofs only [k0, hm, Int.toNat_natCast, rr, onS_some, true_and]
      refine call1 (by simp -implicitDefEqProofs only [List.map_cons, Nat.reduceLT, ev_tab, upd_eq, List.map_nil] <;> rfl) (toSess1 p) ?_
      simp -implicitDefEqProofs only [↓ops_cons, ↓g_indexAddr, Tryd.underlying55, Nat.reduceLT, ev_tab, ne_eq, Nat.reduceEqDiff, not_false_eq_true, upd_ne, upd_eq, adr_sl, k0, k2, cells95, tyOk95, and_self, Int.toNat_natCast, Nat.zero_add, if_true, ↓g_store, ↓ops_nil, ↓w_region, ↓g_move, ↓g_binOp, a4, ev_const, of_int, b_add, e1, ↓g_assign, onS_some, wr_def, at_end, ww, cp, hse]
      try refine ⟨pairs_cons (same_H rfl) (pairs_nil), ?_⟩
      try simp -implicitDefEqProofs only []
      refine ⟨i + 1, by omega, _, rfl, by omega, ?_, ?_, ?_⟩ <;> simp -implicitDefEqProofs only [ne_eq, reduceCtorEq, not_false_eq_true, upd_ne, a2, kl, Nat.reduceEqDiff, a3, upd_eq] <;> rfl
    · have k2 : ¬ (i : Int) < l.length := by omega
      have hi : i = l.length := by omega
      have e : l.take i ++ List.replicate (l.length - i) (Rw.zero kSess) = l := by rw [hi]; simp
      rw [e]
      simp -implicitDefEqProofs only [↓w_seq, ↓w_region, ↓ops_cons, ↓g_move, ↓g_len, Tryd.underlying47, Nat.reduceLT, ev_tab, a4, ne_eq, reduceCtorEq, not_false_eq_true, upd_ne, a2, upd_eq, lx, ↓g_binOp, Nat.reduceEqDiff, ↓ops_nil, ↓w_cond, ↓w_skip, ↓w_block, ↓g_indexAddr, a3, ↓g_load, ↓w_exit, ↓g_assign, ↓w_ret, ret_one, and_self, if_true, onS_some, b_lss, k2, decide_false, onB_false]
  · refine ⟨_, st_end (by simp), by omega, ?_, ?_, ?_⟩ <;> simp -implicitDefEqProofs only [ne_eq, reduceCtorEq, not_false_eq_true, upd_ne, par0, Nat.reduceEqDiff, upd_eq, Int.cast_ofNat_Int] <;> rfl
theorem eqSessSS {H : AHeap} {x y : AV} {l : List (Rw kSess)} (hx : IsR H x l) (hy : IsR H y l) (hl : l.length ≤ 1000000000) : Sound Tryd.prog 46 [x, y] H (.sc (.bool true)) H := by
  refine Sound.run 27 [.tmp 4] Tryd.func46 rfl rfl rfl rfl (by simp) ?_
  have lx := fun e => hx.len e
  have ly := fun e => hy.len e
  simp -implicitDefEqProofs only [↓w_seq, ↓w_region, ↓ops_cons, ↓g_assign, ↓ops_nil, ev_const, of_bool, ↓g_move, ↓g_len, Tryd.underlying55, Nat.reduceLT, ev_tab, ne_eq, reduceCtorEq, not_false_eq_true, upd_ne, par0, upd_eq, lx, Nat.reduceEqDiff, par1, ly, ↓g_binOp, ↓w_cond, ↓w_ret, ret_one, and_true, ↓w_skip, ↓w_block, of_int, onS_some, b_neq, decide_true, Bool.not_true, onB_false]
  refine w_loop (ι := Nat) (fun i s => ∃ T : Nat → AV, s = ⟨tab 27 T, H⟩ ∧ i ≤ l.length ∧ T 0 = x ∧ T 1 = y ∧ T 5 = .sc (.int .i64 i)) (fun i => l.length - i) ?_ (i := 0) ?_
  · rintro i s ⟨T, rfl, a1, a3, a4, a5⟩
    by_cases h : i < l.length
    · have k1 : (i : Int) < l.length := by omega
      have k2 : (0 : Int) ≤ i := by omega
      have e1 : IntKind.i64.wrap ((i : Int) + 1) = i + 1 := w64 (by omega) (by omega)
      have kl : kSess.length = 20 := rfl
      simp -implicitDefEqProofs only [↓w_seq, ↓w_region, ↓ops_cons, ↓g_move, ↓g_len, Tryd.underlying55, Nat.reduceLT, ev_tab, a5, ne_eq, reduceCtorEq, not_false_eq_true, upd_ne, a3, upd_eq, lx, ↓g_binOp, Nat.reduceEqDiff, ↓ops_nil, ↓w_cond, ↓w_skip, ↓w_block, ↓w_exit, ↓g_assign, ↓w_ret, ev_const, of_bool, ret_one, and_self, if_true, onS_some, b_lss, k1, decide_true, onB_true]
      refine drawn [(3, 0), (7, 0)] follows (by kernel_rfl) (by kernel_rfl) ?_
      obtain ⟨r, o, rfl, hr⟩ := hx.get h
      obtain ⟨q, o2, rfl, hq⟩ := hy.get h
      have ha : l[i]? = some l[i] := List.getElem?_eq_getElem h
      generalize l[i] = p at *
      have rr := fun o => rd_row encSess ha o
      simp -implicitDefEqProofs only [kl, ↓dops_cons, ↓g_move, ↓g_indexAddr, Tryd.underlying55, Nat.reduceLT, ev_tab, ne_eq, reduceCtorEq, not_false_eq_true, upd_ne, a3, Nat.reduceEqDiff, a5, upd_eq, adr_sl, k2, k1, cells95, tyOk95, and_self, Int.toNat_natCast, Nat.zero_add, if_true, ↓g_load, a4, onS_some, rd_def, agg95, hq, rr, hr]
      refine call1 (by simp -implicitDefEqProofs only [List.map_cons, Nat.reduceLT, ev_tab, ne_eq, Nat.reduceEqDiff, not_false_eq_true, upd_ne, upd_eq, List.map_nil] <;> rfl) (eqSess1 p) ?_
      simp -implicitDefEqProofs only [↓dops_cons, ↓g_unOp, Nat.reduceLT, ev_tab, upd_eq, u_not, Bool.not_true, Option.map_some, ↓dops_p, ↓w_cond, ↓w_seq, ↓w_region, ↓ops_cons, ↓g_assign, ↓ops_nil, ↓w_ret, ev_const, of_bool, ret_one, and_true, ↓w_skip, ↓g_move, ↓g_binOp, ne_eq, Nat.reduceEqDiff, not_false_eq_true, upd_ne, of_int, onS_some, onB_false]
      refine ⟨pairs_cons (same_H rfl) (pairs_cons (same_H rfl) (pairs_nil)), ?_⟩
      simp -implicitDefEqProofs only [a5, b_add, e1, onS_some]
      refine ⟨i + 1, by omega, _, rfl, by omega, ?_, ?_, ?_⟩ <;> simp -implicitDefEqProofs only [ne_eq, reduceCtorEq, not_false_eq_true, upd_ne, a3, kl, Nat.reduceEqDiff, a4, upd_eq] <;> rfl
    · have k1 : ¬ (i : Int) < l.length := by omega
      simp -implicitDefEqProofs only [↓w_seq, ↓w_region, ↓ops_cons, ↓g_move, ↓g_len, Tryd.underlying55, Nat.reduceLT, ev_tab, a5, ne_eq, reduceCtorEq, not_false_eq_true, upd_ne, a3, upd_eq, lx, ↓g_binOp, Nat.reduceEqDiff, ↓ops_nil, ↓w_cond, ↓w_skip, ↓w_block, ↓w_exit, ↓g_assign, ↓w_ret, ev_const, of_bool, ret_one, and_self, if_true, onS_some, b_lss, k1, decide_false, onB_false]
  · refine ⟨_, rfl, by omega, ?_, ?_, ?_⟩ <;> simp -implicitDefEqProofs only [ne_eq, reduceCtorEq, not_false_eq_true, upd_ne, par0, Nat.reduceEqDiff, par1, upd_eq, Int.cast_ofNat_Int] <;> rfl
abbrev kPacket : List Kd := [.i .i64, .i .i64, .i .i64, .i .i64]
theorem encPacket : Enc (Rw.cs (ks := kPacket)) 4 := Rw.encs (by decide)
theorem rowPacket (r : Rw kPacket) : ∃ a0 a1 a2 a3, r.cs = [.sc (.int .i64 a0), .sc (.int .i64 a1), .sc (.int .i64 a2), .sc (.int .i64 a3)] := by
  have e0 := (r.int_at 0 (k := .i64) rfl).1
  have e1 := (r.int_at 1 (k := .i64) rfl).1
  have e2 := (r.int_at 2 (k := .i64) rfl).1
  have e3 := (r.int_at 3 (k := .i64) rfl).1
  have hl := r.cs_len
  refine ⟨r.int 0, r.int 1, r.int 2, r.int 3, ?_⟩
  generalize r.cs = z at *
  match z, hl with
  | [x0, x1, x2, x3], _ =>
    simp only [List.getElem?_cons_zero, List.getElem?_cons_succ, Option.some.injEq] at e0 e1 e2 e3
    rw [e0, e1, e2, e3]
theorem csPacket (r : Rw kPacket) : r.cs = [.sc (.int .i64 (r.int 0)), .sc (.int .i64 (r.int 1)), .sc (.int .i64 (r.int 2)), .sc (.int .i64 (r.int 3))] := by
  have e0 := (r.int_at 0 (k := .i64) rfl).1
  have e1 := (r.int_at 1 (k := .i64) rfl).1
  have e2 := (r.int_at 2 (k := .i64) rfl).1
  have e3 := (r.int_at 3 (k := .i64) rfl).1
  have hl := r.cs_len
  generalize r.cs = z at *
  match z, hl with
  | [x0, x1, x2, x3], _ =>
    simp only [List.getElem?_cons_zero, List.getElem?_cons_succ, Option.some.injEq] at e0 e1 e2 e3
    rw [e0, e1, e2, e3]
theorem toPacket0 (a0 : Int) (a1 : Int) (a2 : Int) (a3 : Int) : Fn Tryd.prog 88 [.agg [.sc (.int .i64 a0), .sc (.int .i64 a1), .sc (.int .i64 a2), .sc (.int .i64 a3)]] (.agg [.sc (.int .i64 a0), .sc (.int .i64 a1), .sc (.int .i64 a2), .sc (.int .i64 a3)]) := by
  refine Fn.run 17 [.cell 2 97] Tryd.func88 rfl rfl rfl rfl (by simp) (flats_cons (.agg ((flats_cons (.sc _) (flats_cons (.sc _) (flats_cons (.sc _) (flats_cons (.sc _) flats_nil)))))) flats_nil) (.agg ((flats_cons (.sc _) (flats_cons (.sc _) (flats_cons (.sc _) (flats_cons (.sc _) flats_nil)))))) ?_
  simp -implicitDefEqProofs only [↓w_seq, ↓w_region, ↓ops_cons, ↓g_box, Nat.reduceLT, ev_tab, par0, cells_agg, ↓g_alloc, zero97, Option.map_some, ↓ops_nil, ↓g_fieldAddrT, ne_eq, Nat.reduceEqDiff, not_false_eq_true, upd_ne, upd_eq, ↓g_load, ↓g_store, ↓w_ret, ret_cell, alK_some, List.all_cons, one_int, List.all_nil, Bool.and_self, fadr97_0, Nat.zero_add, fadr97_1, fadr97_2, fadr97_3, rd_def, tyOk97, agg97, cells97, onS_some, wr_def, tyOk3, cells3, at_end, wr_c, List.length_cons, List.length_nil, Nat.reduceAdd, Nat.reduceLeDiff, true_and, onS_ite, List.length_append, fadr143_0, List.nil_append, List.cons_append, fadr143_1, List.set_cons_succ, List.set_cons_zero, List.getElem?_cons_succ, List.getElem?_cons_zero, fadr143_2, fadr143_3, agg3, rd_onec, cells_int, and_self, ovC, ovN, over_s, if_true, rd_aggc, List.drop_zero, List.take_succ_cons, Nat.le_refl, and_true, List.take_zero]
theorem toPacket1 (r : Rw kPacket) : Fn Tryd.prog 88 [.agg r.cs] (.agg r.cs) := by
  obtain ⟨a0, a1, a2, a3, e⟩ := rowPacket r
  rw [e]
  exact toPacket0 a0 a1 a2 a3
theorem eqPacket0 (a0 : Int) (a1 : Int) (a2 : Int) (a3 : Int) : Fn Tryd.prog 90 [.agg [.sc (.int .i64 a0), .sc (.int .i64 a1), .sc (.int .i64 a2), .sc (.int .i64 a3)], .agg [.sc (.int .i64 a0), .sc (.int .i64 a1), .sc (.int .i64 a2), .sc (.int .i64 a3)]] (.sc (.bool true)) := by
  refine Fn.run 25 [.tmp 4] Tryd.func90 rfl rfl rfl rfl (by simp) (flats_cons (.agg ((flats_cons (.sc _) (flats_cons (.sc _) (flats_cons (.sc _) (flats_cons (.sc _) flats_nil)))))) (flats_cons (.agg ((flats_cons (.sc _) (flats_cons (.sc _) (flats_cons (.sc _) (flats_cons (.sc _) flats_nil)))))) flats_nil)) (.sc _) ?_
  simp -implicitDefEqProofs only [↓w_seq, ↓w_region, ↓ops_cons, ↓g_box, Nat.reduceLT, ev_tab, par0, cells_agg, ne_eq, Nat.reduceEqDiff, not_false_eq_true, upd_ne, par1, ↓g_assign, ↓ops_nil, ev_const, of_bool, ↓g_fieldAddrT, upd_eq, ↓g_load, ↓g_binOp, ↓w_cond, ↓w_ret, ret_one, ↓w_skip, alK_some, List.all_cons, one_int, List.all_nil, Bool.and_self, fadr97_0, Nat.zero_add, fadr97_1, fadr97_2, fadr97_3, onS_some, rd_def, tyOk3, agg3, cells3, at_end, rd_onec, List.getElem?_cons_succ, List.getElem?_cons_zero, true_and, List.length_nil, List.nil_append, List.cons_append, b_neq, decide_true, Bool.not_true, onB_false, and_self]
theorem eqPacket1 (r : Rw kPacket) : Fn Tryd.prog 90 [.agg r.cs, .agg r.cs] (.sc (.bool true)) := by
  obtain ⟨a0, a1, a2, a3, e⟩ := rowPacket r
  rw [e]
  exact eqPacket0 a0 a1 a2 a3
abbrev kOut : List Kd := [.i .i64, .i .i64, .i .i64, .i .i64, .i .i64]
theorem encOut : Enc (Rw.cs (ks := kOut)) 5 := Rw.encs (by decide)
theorem rowOut (r : Rw kOut) : ∃ a0 a1 a2 a3 a4, r.cs = [.sc (.int .i64 a0), .sc (.int .i64 a1), .sc (.int .i64 a2), .sc (.int .i64 a3), .sc (.int .i64 a4)] := by
  have e0 := (r.int_at 0 (k := .i64) rfl).1
  have e1 := (r.int_at 1 (k := .i64) rfl).1
  have e2 := (r.int_at 2 (k := .i64) rfl).1
  have e3 := (r.int_at 3 (k := .i64) rfl).1
  have e4 := (r.int_at 4 (k := .i64) rfl).1
  have hl := r.cs_len
  refine ⟨r.int 0, r.int 1, r.int 2, r.int 3, r.int 4, ?_⟩
  generalize r.cs = z at *
  match z, hl with
  | [x0, x1, x2, x3, x4], _ =>
    simp only [List.getElem?_cons_zero, List.getElem?_cons_succ, Option.some.injEq] at e0 e1 e2 e3 e4
    rw [e0, e1, e2, e3, e4]
theorem csOut (r : Rw kOut) : r.cs = [.sc (.int .i64 (r.int 0)), .sc (.int .i64 (r.int 1)), .sc (.int .i64 (r.int 2)), .sc (.int .i64 (r.int 3)), .sc (.int .i64 (r.int 4))] := by
  have e0 := (r.int_at 0 (k := .i64) rfl).1
  have e1 := (r.int_at 1 (k := .i64) rfl).1
  have e2 := (r.int_at 2 (k := .i64) rfl).1
  have e3 := (r.int_at 3 (k := .i64) rfl).1
  have e4 := (r.int_at 4 (k := .i64) rfl).1
  have hl := r.cs_len
  generalize r.cs = z at *
  match z, hl with
  | [x0, x1, x2, x3, x4], _ =>
    simp only [List.getElem?_cons_zero, List.getElem?_cons_succ, Option.some.injEq] at e0 e1 e2 e3 e4
    rw [e0, e1, e2, e3, e4]
theorem toOut0 (a0 : Int) (a1 : Int) (a2 : Int) (a3 : Int) (a4 : Int) : Fn Tryd.prog 76 [.agg [.sc (.int .i64 a0), .sc (.int .i64 a1), .sc (.int .i64 a2), .sc (.int .i64 a3), .sc (.int .i64 a4)]] (.agg [.sc (.int .i64 a0), .sc (.int .i64 a1), .sc (.int .i64 a2), .sc (.int .i64 a3), .sc (.int .i64 a4)]) := by
  refine Fn.run 12 [.cell 2 99] Tryd.func76 rfl rfl rfl rfl (by simp) (flats_cons (.agg ((flats_cons (.sc _) (flats_cons (.sc _) (flats_cons (.sc _) (flats_cons (.sc _) (flats_cons (.sc _) flats_nil))))))) flats_nil) (.agg ((flats_cons (.sc _) (flats_cons (.sc _) (flats_cons (.sc _) (flats_cons (.sc _) (flats_cons (.sc _) flats_nil))))))) ?_
  simp -implicitDefEqProofs only [↓w_seq, ↓w_region, ↓ops_cons, ↓g_box, Nat.reduceLT, ev_tab, par0, cells_agg, ↓g_alloc, zero99, Option.map_some, ↓ops_nil, ↓g_fieldAddrT, ne_eq, Nat.reduceEqDiff, not_false_eq_true, upd_ne, upd_eq, ↓g_load, ↓g_store, alK_some, List.all_cons, one_int, List.all_nil, Bool.and_self, fadr99_0, Nat.zero_add, onS_some, wr_def, tyOk3, cells3, at_end, wr_c, List.length_cons, List.length_nil, Nat.reduceAdd, Nat.reduceLeDiff, true_and, onS_ite, List.length_append, fadr145_0, List.nil_append, List.cons_append, fadr145_1, List.set_cons_succ, List.set_cons_zero, rd_def, tyOk143, agg143, cells143, List.getElem?_cons_zero, rd_aggc, Nat.le_refl, List.drop_succ_cons, List.drop_zero, List.take_succ_cons, List.take_zero, if_true, agg3, rd_onec, cells_int, and_self, ovC, ovN]
  refine call1 (by simp -implicitDefEqProofs only [List.map_cons, Nat.reduceLT, ev_tab, upd_eq, List.map_nil] <;> rfl) (toPacket0 a1 a2 a3 a4) ?_
  simp -implicitDefEqProofs only [↓ops_cons, ↓g_fieldAddrT, Nat.reduceLT, ev_tab, ne_eq, Nat.reduceEqDiff, not_false_eq_true, upd_ne, upd_eq, fadr99_1, Nat.zero_add, ↓g_store, ↓ops_nil, ↓w_seq, ↓w_region, ↓g_load, rd_def, tyOk99, agg99, cells99, wr_def, ↓w_ret, ret_cell, onS_some, tyOk97, cells97, List.getElem?_cons_succ, List.getElem?_cons_zero, wr_c, cells_agg, List.length_cons, List.length_nil, Nat.reduceAdd, Nat.le_refl, List.all_cons, one_int, List.all_nil, Bool.and_self, and_self, over_s, ovC, ovN, List.set_cons_succ, List.set_cons_zero, if_true, rd_aggc, List.drop_zero, List.take_succ_cons, List.take_zero, true_and, onS_ite]
theorem toOut1 (r : Rw kOut) : Fn Tryd.prog 76 [.agg r.cs] (.agg r.cs) := by
  obtain ⟨a0, a1, a2, a3, a4, e⟩ := rowOut r
  rw [e]
  exact toOut0 a0 a1 a2 a3 a4
theorem eqOut0 (a0 : Int) (a1 : Int) (a2 : Int) (a3 : Int) (a4 : Int) : Fn Tryd.prog 80 [.agg [.sc (.int .i64 a0), .sc (.int .i64 a1), .sc (.int .i64 a2), .sc (.int .i64 a3), .sc (.int .i64 a4)], .agg [.sc (.int .i64 a0), .sc (.int .i64 a1), .sc (.int .i64 a2), .sc (.int .i64 a3), .sc (.int .i64 a4)]] (.sc (.bool true)) := by
  refine Fn.run 16 [.tmp 4] Tryd.func80 rfl rfl rfl rfl (by simp) (flats_cons (.agg ((flats_cons (.sc _) (flats_cons (.sc _) (flats_cons (.sc _) (flats_cons (.sc _) (flats_cons (.sc _) flats_nil))))))) (flats_cons (.agg ((flats_cons (.sc _) (flats_cons (.sc _) (flats_cons (.sc _) (flats_cons (.sc _) (flats_cons (.sc _) flats_nil))))))) flats_nil)) (.sc _) ?_
  simp -implicitDefEqProofs only [↓w_seq, ↓w_region, ↓ops_cons, ↓g_box, Nat.reduceLT, ev_tab, par0, cells_agg, ne_eq, Nat.reduceEqDiff, not_false_eq_true, upd_ne, par1, ↓g_assign, ↓ops_nil, ev_const, of_bool, ↓g_fieldAddrT, upd_eq, ↓g_load, ↓g_binOp, ↓w_cond, ↓w_ret, ret_one, ↓w_skip, alK_some, List.all_cons, one_int, List.all_nil, Bool.and_self, fadr99_0, Nat.zero_add, fadr99_1, onS_some, rd_def, tyOk97, agg97, cells97, at_end, rd_aggc, Nat.reduceAdd, List.length_cons, List.length_nil, Nat.le_refl, List.drop_succ_cons, List.drop_zero, List.take_succ_cons, List.take_zero, if_true, tyOk3, agg3, cells3, rd_onec, List.getElem?_cons_zero, true_and, List.nil_append, List.cons_append, b_neq, decide_true, Bool.not_true, onB_false]
  refine call1 (by simp -implicitDefEqProofs only [List.map_cons, Nat.reduceLT, ev_tab, ne_eq, Nat.reduceEqDiff, not_false_eq_true, upd_ne, upd_eq, List.map_nil] <;> rfl) (eqPacket0 a1 a2 a3 a4) ?_
  simp -implicitDefEqProofs only [↓ops_cons, ↓g_unOp, Nat.reduceLT, ev_tab, upd_eq, u_not, Bool.not_true, Option.map_some, ↓ops_nil, ↓w_cond, ↓w_seq, ↓w_region, ↓g_assign, ↓w_ret, ev_const, of_bool, ret_one, ↓w_skip, onS_some, onB_false]
theorem eqOut1 (r : Rw kOut) : Fn Tryd.prog 80 [.agg r.cs, .agg r.cs] (.sc (.bool true)) := by
  obtain ⟨a0, a1, a2, a3, a4, e⟩ := rowOut r
  rw [e]
  exact eqOut0 a0 a1 a2 a3 a4
theorem szOutSS {H : AHeap} {x : AV} {l : List (Rw kOut)} (n : Int) (hn : 0 ≤ n ∧ n ≤ 1048576) (hx : IsR H x l) (hl : l.length ≤ 9223372036854775807) : Sound Tryd.prog 40 [x, .sc (.int .i64 n)] H (.sc (.int .i64 (if n - (l.length : Int) < 0 then -1 else n - l.length))) H := by
  refine Sound.run 12 [.tmp 4] Tryd.func40 rfl rfl rfl rfl (by simp) ?_
  have lx := fun e => hx.len e
  have e1 : IntKind.i64.wrap (n - (l.length : Int)) = n - l.length := w64 (by omega) (by omega)
  simp -implicitDefEqProofs only [↓w_seq, ↓w_region, Int.reduceNeg, ↓ops_cons, ↓g_assign, ↓ops_nil, ev_const, of_int, ↓g_move, ↓g_len, Tryd.underlying50, Nat.reduceLT, ev_tab, ne_eq, Nat.reduceEqDiff, not_false_eq_true, upd_ne, par1, reduceCtorEq, par0, upd_eq, lx, ↓g_binOp, ↓w_cond, ↓w_ret, ret_one, and_true, ↓w_skip, onS_some, b_sub, e1, b_lss, onB_dec]
  split <;> rfl
theorem toOutSS {H : AHeap} {x : AV} {l : List (Rw kOut)} (hx : IsR H x l) (hl : l.length ≤ 1048576) : Sound Tryd.prog 45 [x] H (.sl H.length 0 l.length 5) (H ++ [⟨rows Rw.cs l, true, true⟩]) := by
  refine Sound.run 23 [.tmp 2] Tryd.func45 rfl rfl rfl rfl (by simp) ?_
  have lx := fun e => hx.len e
  have k0 : ∀ j : Nat, (0 : Int) ≤ (j : Int) := fun j => by omega
  have k1 : (l.length : Int) ≤ 1048576 := by omega
  have mk := mk_rows (P := Tryd.prog) (Rw.zero kOut) 99 .i64 .i64 (l.length : Int) 40 encOut (by kernel_rfl) (by kernel_rfl) (by kernel_rfl) (by omega) (by omega) (by omega)
  have ra := rows_all encOut (List.replicate l.length (Rw.zero kOut))
  simp -implicitDefEqProofs only [↓w_seq, ↓w_region, ↓ops_cons, ↓g_assign, ↓ops_nil, ev_const, ↓g_move, ↓g_len, Tryd.underlying50, Nat.reduceLT, ev_tab, ne_eq, reduceCtorEq, not_false_eq_true, upd_ne, par0, upd_eq, lx, ↓g_makeSlice, Tryd.underlying58, ↓w_block, of_int, onS_some, mk, Int.toNat_natCast, alK_some, ra, true_and]
  refine w_loop (ι := Nat) (fun i s => ∃ T : Nat → AV, s = ⟨tab 23 T, H ++ [⟨rows Rw.cs (l.take i ++ List.replicate (l.length - i) (Rw.zero kOut)), true, true⟩]⟩ ∧ i ≤ l.length ∧ T 0 = x ∧ T 3 = .sl H.length 0 l.length 5 ∧ T 4 = .sc (.int .i64 i)) (fun i => l.length - i) ?_ (i := 0) ?_
  · rintro i s ⟨T, rfl, a1, a2, a3, a4⟩
    by_cases h : i < l.length
    · have k2 : (i : Int) < l.length := by omega
      have e1 : IntKind.i64.wrap ((i : Int) + 1) = i + 1 := w64 (by omega) (by omega)
      obtain ⟨r, o, rfl, hr⟩ := hx.get h
      have hrl : r < H.length := (List.getElem?_eq_some_iff.1 hr).1
      have hm := at_more H [⟨rows Rw.cs (l.take i ++ List.replicate (l.length - i) (Rw.zero kOut)), true, true⟩] r hrl
      rw [hr] at hm
      have ha : l[i]? = some l[i] := List.getElem?_eq_getElem h
      generalize l[i] = p at ha
      have rr := fun o => rd_row encOut ha o
      have ww := fun (G : AHeap) => wr_row (H := G) (l := l.take i ++ List.replicate (l.length - i) (Rw.zero kOut)) encOut (i := i) (by simp; omega) H.length p
      have cp := cpy_row (Rw.zero kOut) l i p ha
      have hse : ∀ g h : Reg, (H ++ [g]).set H.length h = H ++ [h] := fun g h => by simp
      have kl : kOut.length = 5 := rfl
      simp -implicitDefEqProofs only [↓w_seq, ↓w_region, List.length_cons, List.length_nil, Nat.zero_add, Nat.reduceAdd, ↓ops_cons, ↓g_move, ↓g_len, Tryd.underlying50, Nat.reduceLT, ev_tab, a4, ne_eq, reduceCtorEq, not_false_eq_true, upd_ne, a2, upd_eq, len_sl, ↓g_binOp, Nat.reduceEqDiff, ↓ops_nil, ↓w_cond, ↓w_skip, ↓w_block, ↓g_indexAddr, a3, adr_sl, k2, cells145, tyOk145, and_self, and_true, ↓g_load, onS_ite, rd_def, agg145, ↓w_exit, ↓g_assign, ↓w_ret, ret_one, true_and, if_true, onS_some, b_lss, decide_true, onB_true]
      try refine drawn [(5, 0)] follows (by kernel_rfl) (by kernel_rfl) ?_
      simp -implicitDefEqProofs only [k0, hm, Int.toNat_natCast, rr, onS_some, true_and]
      refine call1 (by simp -implicitDefEqProofs only [List.map_cons, Nat.reduceLT, ev_tab, upd_eq, List.map_nil] <;> rfl) (toOut1 p) ?_
      simp -implicitDefEqProofs only [↓ops_cons, ↓g_indexAddr, Tryd.underlying58, Nat.reduceLT, ev_tab, ne_eq, Nat.reduceEqDiff, not_false_eq_true, upd_ne, upd_eq, adr_sl, k0, k2, cells99, tyOk99, and_self, Int.toNat_natCast, Nat.zero_add, if_true, ↓g_store, ↓ops_nil, ↓w_region, ↓g_move, ↓g_binOp, a4, ev_const, of_int, b_add, e1, ↓g_assign, onS_some, wr_def, at_end, ww, cp, hse]
      try refine ⟨pairs_cons (same_H rfl) (pairs_nil), ?_⟩
      try simp -implicitDefEqProofs only []
      refine ⟨i + 1, by omega, _, rfl, by omega, ?_, ?_, ?_⟩ <;> simp -implicitDefEqProofs only [ne_eq, reduceCtorEq, not_false_eq_true, upd_ne, a2, kl, Nat.reduceEqDiff, a3, upd_eq] <;> rfl
    · have k2 : ¬ (i : Int) < l.length := by omega
      have hi : i = l.length := by omega
      have e : l.take i ++ List.replicate (l.length - i) (Rw.zero kOut) = l := by rw [hi]; simp
      rw [e]
      simp -implicitDefEqProofs only [↓w_seq, ↓w_region, ↓ops_cons, ↓g_move, ↓g_len, Tryd.underlying50, Nat.reduceLT, ev_tab, a4, ne_eq, reduceCtorEq, not_false_eq_true, upd_ne, a2, upd_eq, lx, ↓g_binOp, Nat.reduceEqDiff, ↓ops_nil, ↓w_cond, ↓w_skip, ↓w_block, ↓g_indexAddr, a3, ↓g_load, ↓w_exit, ↓g_assign, ↓w_ret, ret_one, and_self, if_true, onS_some, b_lss, k2, decide_false, onB_false]
  · refine ⟨_, st_end (by simp), by omega, ?_, ?_, ?_⟩ <;> simp -implicitDefEqProofs only [ne_eq, reduceCtorEq, not_false_eq_true, upd_ne, par0, Nat.reduceEqDiff, upd_eq, Int.cast_ofNat_Int] <;> rfl
theorem eqOutSS {H : AHeap} {x y : AV} {l : List (Rw kOut)} (hx : IsR H x l) (hy : IsR H y l) (hl : l.length ≤ 1000000000) : Sound Tryd.prog 49 [x, y] H (.sc (.bool true)) H := by
  refine Sound.run 27 [.tmp 4] Tryd.func49 rfl rfl rfl rfl (by simp) ?_
  have lx := fun e => hx.len e
  have ly := fun e => hy.len e
  simp -implicitDefEqProofs only [↓w_seq, ↓w_region, ↓ops_cons, ↓g_assign, ↓ops_nil, ev_const, of_bool, ↓g_move, ↓g_len, Tryd.underlying58, Nat.reduceLT, ev_tab, ne_eq, reduceCtorEq, not_false_eq_true, upd_ne, par0, upd_eq, lx, Nat.reduceEqDiff, par1, ly, ↓g_binOp, ↓w_cond, ↓w_ret, ret_one, and_true, ↓w_skip, ↓w_block, of_int, onS_some, b_neq, decide_true, Bool.not_true, onB_false]
  refine w_loop (ι := Nat) (fun i s => ∃ T : Nat → AV, s = ⟨tab 27 T, H⟩ ∧ i ≤ l.length ∧ T 0 = x ∧ T 1 = y ∧ T 5 = .sc (.int .i64 i)) (fun i => l.length - i) ?_ (i := 0) ?_
  · rintro i s ⟨T, rfl, a1, a3, a4, a5⟩
    by_cases h : i < l.length
    · have k1 : (i : Int) < l.length := by omega
      have k2 : (0 : Int) ≤ i := by omega
      have e1 : IntKind.i64.wrap ((i : Int) + 1) = i + 1 := w64 (by omega) (by omega)
      have kl : kOut.length = 5 := rfl
      simp -implicitDefEqProofs only [↓w_seq, ↓w_region, ↓ops_cons, ↓g_move, ↓g_len, Tryd.underlying58, Nat.reduceLT, ev_tab, a5, ne_eq, reduceCtorEq, not_false_eq_true, upd_ne, a3, upd_eq, lx, ↓g_binOp, Nat.reduceEqDiff, ↓ops_nil, ↓w_cond, ↓w_skip, ↓w_block, ↓w_exit, ↓g_assign, ↓w_ret, ev_const, of_bool, ret_one, and_self, if_true, onS_some, b_lss, k1, decide_true, onB_true]
      refine drawn [(3, 0), (7, 0)] follows (by kernel_rfl) (by kernel_rfl) ?_
      obtain ⟨r, o, rfl, hr⟩ := hx.get h
      obtain ⟨q, o2, rfl, hq⟩ := hy.get h
      have ha : l[i]? = some l[i] := List.getElem?_eq_getElem h
      generalize l[i] = p at *
      have rr := fun o => rd_row encOut ha o
      simp -implicitDefEqProofs only [kl, ↓dops_cons, ↓g_move, ↓g_indexAddr, Tryd.underlying58, Nat.reduceLT, ev_tab, ne_eq, reduceCtorEq, not_false_eq_true, upd_ne, a3, Nat.reduceEqDiff, a5, upd_eq, adr_sl, k2, k1, cells99, tyOk99, and_self, Int.toNat_natCast, Nat.zero_add, if_true, ↓g_load, a4, onS_some, rd_def, agg99, hq, rr, hr]
      refine call1 (by simp -implicitDefEqProofs only [List.map_cons, Nat.reduceLT, ev_tab, ne_eq, Nat.reduceEqDiff, not_false_eq_true, upd_ne, upd_eq, List.map_nil] <;> rfl) (eqOut1 p) ?_
      simp -implicitDefEqProofs only [↓dops_cons, ↓g_unOp, Nat.reduceLT, ev_tab, upd_eq, u_not, Bool.not_true, Option.map_some, ↓dops_p, ↓w_cond, ↓w_seq, ↓w_region, ↓ops_cons, ↓g_assign, ↓ops_nil, ↓w_ret, ev_const, of_bool, ret_one, and_true, ↓w_skip, ↓g_move, ↓g_binOp, ne_eq, Nat.reduceEqDiff, not_false_eq_true, upd_ne, of_int, onS_some, onB_false]
      refine ⟨pairs_cons (same_H rfl) (pairs_cons (same_H rfl) (pairs_nil)), ?_⟩
      simp -implicitDefEqProofs only [a5, b_add, e1, onS_some]
      refine ⟨i + 1, by omega, _, rfl, by omega, ?_, ?_, ?_⟩ <;> simp -implicitDefEqProofs only [ne_eq, reduceCtorEq, not_false_eq_true, upd_ne, a3, kl, Nat.reduceEqDiff, a4, upd_eq] <;> rfl
    · have k1 : ¬ (i : Int) < l.length := by omega
      simp -implicitDefEqProofs only [↓w_seq, ↓w_region, ↓ops_cons, ↓g_move, ↓g_len, Tryd.underlying58, Nat.reduceLT, ev_tab, a5, ne_eq, reduceCtorEq, not_false_eq_true, upd_ne, a3, upd_eq, lx, ↓g_binOp, Nat.reduceEqDiff, ↓ops_nil, ↓w_cond, ↓w_skip, ↓w_block, ↓w_exit, ↓g_assign, ↓w_ret, ev_const, of_bool, ret_one, and_self, if_true, onS_some, b_lss, k1, decide_false, onB_false]
  · refine ⟨_, rfl, by omega, ?_, ?_, ?_⟩ <;> simp -implicitDefEqProofs only [ne_eq, reduceCtorEq, not_false_eq_true, upd_ne, par0, Nat.reduceEqDiff, par1, upd_eq, Int.cast_ofNat_Int] <;> rfl
end Go.Proofs.YtfgmmklljibbiaaDoor.Sim

