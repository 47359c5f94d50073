/- Gates: what the laws do with them. -/
import Derived.Test.YtfgmmklljibbiaaDoorFRwLR
import Derived.Test.YtfgmmklljibbiaaDoorFRwSO
namespace Go.Proofs.YtfgmmklljibbiaaDoor.Sim
open Go
set_option maxRecDepth 100000
set_option maxHeartbeats 40000000
set_option linter.unusedSimpArgs false
set_option linter.unusedVariables false
def gtv (n nx : Int) (x1 x2 x3 x4 : AV) (dr : Int) : AV := .agg [.sc (.int .i64 n), .sc (.int .i64 nx), x1, x2, x3, x4, .sc (.int .i64 dr)]
theorem szGateS {H : AHeap} {x1 x2 x3 x4 : AV} {l1 : List (Rw kSess)} {l2 : List (Rw kLease)} {l3 : List (Rw kRoute)} {l4 : List (Rw kOut)} (n nx dr : Int) (h1 : IsR H x1 l1) (h2 : IsR H x2 l2) (h3 : IsR H x3 l3) (h4 : IsR H x4 l4)
    (b1 : l1.length ≤ 9223372036854775807) (b2 : l2.length ≤ 9223372036854775807) (b3 : l3.length ≤ 9223372036854775807) (b4 : l4.length ≤ 9223372036854775807) (m : Int) (hm : 0 ≤ m ∧ m ≤ 1048576) :
    ∃ (k : Int) (Z : AHeap), Sound Tryd.prog 15 [gtv n nx x1 x2 x3 x4 dr, .sc (.int .i64 m)] H (.sc (.int .i64 k)) Z ∧ Ext H Z ∧ k ≤ 1048576 ∧ (¬ k < 0 → l1.length + l2.length + l3.length + l4.length + k ≤ m) := by
  suffices h : ∃ v Z, Sound Tryd.prog 15 [gtv n nx x1 x2 x3 x4 dr, .sc (.int .i64 m)] H v Z ∧ ∃ k : Int, v = .sc (.int .i64 k) ∧ Ext H Z ∧ k ≤ 1048576 ∧ (¬ k < 0 → l1.length + l2.length + l3.length + l4.length + k ≤ m) by
    obtain ⟨v, Z, h1, k, rfl, h2⟩ := h
    exact ⟨k, Z, h1, h2⟩
  unfold gtv
  refine Sound.runP (args := [.agg [.sc (.int .i64 n), .sc (.int .i64 nx), x1, x2, x3, x4, .sc (.int .i64 dr)], .sc (.int .i64 m)]) 30 [.tmp 4] Tryd.func15 rfl rfl rfl rfl (by simp) (fun v Z => ∃ k : Int, v = .sc (.int .i64 k) ∧ Ext H Z ∧ k ≤ 1048576 ∧ (¬ k < 0 → l1.length + l2.length + l3.length + l4.length + k ≤ m)) ?_
  have o1 := h1.one
  have o2 := h2.one
  have o3 := h3.one
  have o4 := h4.one
  obtain ⟨A, hA⟩ : ∃ A : Reg, A = ⟨[.sc (.int .i64 n), .sc (.int .i64 nx), x1, x2, x3, x4, .sc (.int .i64 dr)], true, true⟩ := ⟨_, rfl⟩
  have e0 := Ext.more H [A]
  have b0 : (H ++ [A])[H.length]? = some ⟨[.sc (.int .i64 n), .sc (.int .i64 nx), x1, x2, x3, x4, .sc (.int .i64 dr)], true, true⟩ := by rw [← hA]; exact hap_0 H [A]
  have c1 := szSessSS m hm (e0.isR h1) b1
  by_cases g1 : m - (l1.length : Int) < 0
  · rw [if_pos g1] at c1
    simp -implicitDefEqProofs only [↓w_seq, ↓w_region, Int.reduceNeg, ↓ops_cons, ↓g_box, Nat.reduceLT, ev_tab, par0, cells_agg, ↓g_assign, ↓ops_nil, ev_const, of_int, ↓g_fieldAddrT, ne_eq, Nat.reduceEqDiff, not_false_eq_true, upd_ne, upd_eq, ↓g_load, ↓g_move, par1, alK_some, List.all_cons, one_int, o1, o2, o3, o4, List.all_nil, Bool.and_self, fadr52_2, Nat.zero_add, onS_some, rd_def, tyOk47, agg47, cells47, hap_0, List.getElem?_cons_zero, rd_onec, List.getElem?_cons_succ, true_and]
    rw [← hA]
    refine call1S (by simp -implicitDefEqProofs only [List.map_cons, Nat.reduceLT, ev_tab, ne_eq, Nat.reduceEqDiff, not_false_eq_true, upd_ne, upd_eq, List.map_nil] <;> rfl) c1 ?_
    simp -implicitDefEqProofs only [↓ops_cons, ↓g_assign, ↓ops_nil, ↓w_seq, ↓w_region, Int.reduceNeg, Nat.reduceLT, ev_tab, upd_eq, ↓g_move, ↓g_binOp, ev_const, of_int, b_lss, Int.reduceLT, decide_true, ↓w_cond, ↓w_ret, retP_1, res_tmp, onS_some, ↓w_skip, ↓g_fieldAddrT, ne_eq, Nat.reduceEqDiff, not_false_eq_true, upd_ne, fadr52_3, Nat.zero_add, ↓g_load, rd_def, tyOk48, agg48, cells48, at_end, onB_true]
    exact ⟨_, rfl, e0, by omega, fun h => absurd (by decide) h⟩
  rw [if_neg g1] at c1
  have c2 := szLeaseSS (m - l1.length) ⟨by omega, by omega⟩ (e0.isR h2) b2
  simp -implicitDefEqProofs only [↓w_seq, ↓w_region, Int.reduceNeg, ↓ops_cons, ↓g_box, Nat.reduceLT, ev_tab, par0, cells_agg, ↓g_assign, ↓ops_nil, ev_const, of_int, ↓g_fieldAddrT, ne_eq, Nat.reduceEqDiff, not_false_eq_true, upd_ne, upd_eq, ↓g_load, ↓g_move, par1, alK_some, List.all_cons, one_int, o1, o2, o3, o4, List.all_nil, Bool.and_self, fadr52_2, Nat.zero_add, onS_some, rd_def, tyOk47, agg47, cells47, hap_0, List.getElem?_cons_zero, rd_onec, List.getElem?_cons_succ, true_and]
  rw [← hA]
  refine call1S (by simp -implicitDefEqProofs only [List.map_cons, Nat.reduceLT, ev_tab, ne_eq, Nat.reduceEqDiff, not_false_eq_true, upd_ne, upd_eq, List.map_nil] <;> rfl) c1 ?_
  simp -implicitDefEqProofs only [↓ops_cons, ↓g_assign, ↓ops_nil, ↓w_seq, ↓w_region, Int.reduceNeg, Nat.reduceLT, ev_tab, upd_eq, ↓g_move, ↓g_binOp, ev_const, of_int, b_lss, g1, decide_false, ↓w_cond, ↓w_ret, retP_1, res_tmp, onS_some, ↓w_skip, ↓g_fieldAddrT, ne_eq, Nat.reduceEqDiff, not_false_eq_true, upd_ne, fadr52_3, Nat.zero_add, ↓g_load, rd_def, tyOk48, agg48, cells48, b0, rd_onec, List.getElem?_cons_succ, List.getElem?_cons_zero, onB_false]
  by_cases g2 : m - (l1.length : Int) - l2.length < 0
  · rw [if_pos g2] at c2
    refine call1S (by simp -implicitDefEqProofs only [List.map_cons, Nat.reduceLT, ev_tab, ne_eq, Nat.reduceEqDiff, not_false_eq_true, upd_ne, upd_eq, List.map_nil] <;> rfl) c2 ?_
    simp -implicitDefEqProofs only [↓ops_cons, ↓g_assign, ↓ops_nil, ↓w_seq, ↓w_region, Int.reduceNeg, Nat.reduceLT, ev_tab, upd_eq, ↓g_move, ↓g_binOp, ev_const, of_int, b_lss, Int.reduceLT, decide_true, ↓w_cond, ↓w_ret, retP_1, res_tmp, onS_some, ↓w_skip, ↓g_fieldAddrT, ne_eq, Nat.reduceEqDiff, not_false_eq_true, upd_ne, fadr52_4, Nat.zero_add, ↓g_load, rd_def, tyOk49, agg49, cells49, at_end, onB_true]
    exact ⟨_, rfl, e0, by omega, fun h => absurd (by decide) h⟩
  rw [if_neg g2] at c2
  have c3 := szRouteSS (m - l1.length - l2.length) ⟨by omega, by omega⟩ (e0.isR h3) b3
  refine call1S (by simp -implicitDefEqProofs only [List.map_cons, Nat.reduceLT, ev_tab, ne_eq, Nat.reduceEqDiff, not_false_eq_true, upd_ne, upd_eq, List.map_nil] <;> rfl) c2 ?_
  simp -implicitDefEqProofs only [↓ops_cons, ↓g_assign, ↓ops_nil, ↓w_seq, ↓w_region, Int.reduceNeg, Nat.reduceLT, ev_tab, upd_eq, ↓g_move, ↓g_binOp, ev_const, of_int, b_lss, g2, decide_false, ↓w_cond, ↓w_ret, retP_1, res_tmp, onS_some, ↓w_skip, ↓g_fieldAddrT, ne_eq, Nat.reduceEqDiff, not_false_eq_true, upd_ne, fadr52_4, Nat.zero_add, ↓g_load, rd_def, tyOk49, agg49, cells49, b0, rd_onec, List.getElem?_cons_succ, List.getElem?_cons_zero, onB_false]
  by_cases g3 : m - (l1.length : Int) - l2.length - l3.length < 0
  · rw [if_pos g3] at c3
    refine call1S (by simp -implicitDefEqProofs only [List.map_cons, Nat.reduceLT, ev_tab, ne_eq, Nat.reduceEqDiff, not_false_eq_true, upd_ne, upd_eq, List.map_nil] <;> rfl) c3 ?_
    simp -implicitDefEqProofs only [↓ops_cons, ↓g_assign, ↓ops_nil, ↓w_seq, ↓w_region, Int.reduceNeg, Nat.reduceLT, ev_tab, upd_eq, ↓g_move, ↓g_binOp, ev_const, of_int, b_lss, Int.reduceLT, decide_true, ↓w_cond, ↓w_ret, retP_1, res_tmp, onS_some, ↓w_skip, ↓g_fieldAddrT, ne_eq, Nat.reduceEqDiff, not_false_eq_true, upd_ne, fadr52_5, Nat.zero_add, ↓g_load, rd_def, tyOk50, agg50, cells50, at_end, onB_true]
    exact ⟨_, rfl, e0, by omega, fun h => absurd (by decide) h⟩
  rw [if_neg g3] at c3
  have c4 := szOutSS (m - l1.length - l2.length - l3.length) ⟨by omega, by omega⟩ (e0.isR h4) b4
  refine call1S (by simp -implicitDefEqProofs only [List.map_cons, Nat.reduceLT, ev_tab, ne_eq, Nat.reduceEqDiff, not_false_eq_true, upd_ne, upd_eq, List.map_nil] <;> rfl) c3 ?_
  simp -implicitDefEqProofs only [↓ops_cons, ↓g_assign, ↓ops_nil, ↓w_seq, ↓w_region, Int.reduceNeg, Nat.reduceLT, ev_tab, upd_eq, ↓g_move, ↓g_binOp, ev_const, of_int, b_lss, g3, decide_false, ↓w_cond, ↓w_ret, retP_1, res_tmp, onS_some, ↓w_skip, ↓g_fieldAddrT, ne_eq, Nat.reduceEqDiff, not_false_eq_true, upd_ne, fadr52_5, Nat.zero_add, ↓g_load, rd_def, tyOk50, agg50, cells50, b0, rd_onec, List.getElem?_cons_succ, List.getElem?_cons_zero, onB_false]
  by_cases g4 : m - (l1.length : Int) - l2.length - l3.length - l4.length < 0
  · rw [if_pos g4] at c4
    refine call1S (by simp -implicitDefEqProofs only [List.map_cons, Nat.reduceLT, ev_tab, ne_eq, Nat.reduceEqDiff, not_false_eq_true, upd_ne, upd_eq, List.map_nil] <;> rfl) c4 ?_
    simp -implicitDefEqProofs only [↓ops_cons, ↓g_assign, ↓ops_nil, ↓w_seq, ↓w_region, Int.reduceNeg, Nat.reduceLT, ev_tab, upd_eq, ↓g_move, ↓g_binOp, ev_const, of_int, b_lss, Int.reduceLT, decide_true, ↓w_cond, ↓w_ret, retP_1, res_tmp, onS_some, ↓w_skip, ne_eq, Nat.reduceEqDiff, not_false_eq_true, upd_ne, onB_true]
    exact ⟨_, rfl, e0, by omega, fun h => absurd (by decide) h⟩
  rw [if_neg g4] at c4
  refine call1S (by simp -implicitDefEqProofs only [List.map_cons, Nat.reduceLT, ev_tab, ne_eq, Nat.reduceEqDiff, not_false_eq_true, upd_ne, upd_eq, List.map_nil] <;> rfl) c4 ?_
  simp -implicitDefEqProofs only [↓ops_cons, ↓g_assign, ↓ops_nil, ↓w_seq, ↓w_region, Int.reduceNeg, Nat.reduceLT, ev_tab, upd_eq, ↓g_move, ↓g_binOp, ev_const, of_int, b_lss, g4, decide_false, ↓w_cond, ↓w_ret, retP_1, res_tmp, onS_some, ↓w_skip, ne_eq, Nat.reduceEqDiff, not_false_eq_true, upd_ne, onB_false]
  exact ⟨_, rfl, e0, by omega, fun h => by omega⟩
theorem toGateS {H : AHeap} {x1 x2 x3 x4 : AV} {l1 : List (Rw kSess)} {l2 : List (Rw kLease)} {l3 : List (Rw kRoute)} {l4 : List (Rw kOut)} (n nx dr : Int) (h1 : IsR H x1 l1) (h2 : IsR H x2 l2) (h3 : IsR H x3 l3) (h4 : IsR H x4 l4)
    (b1 : l1.length ≤ 1048576) (b2 : l2.length ≤ 1048576) (b3 : l3.length ≤ 1048576) (b4 : l4.length ≤ 1048576) :
    ∃ (y1 y2 y3 y4 : AV) (Z : AHeap), Sound Tryd.prog 17 [gtv n nx x1 x2 x3 x4 dr] H (gtv n nx y1 y2 y3 y4 dr) Z ∧ Ext H Z ∧ IsR Z y1 l1 ∧ IsR Z y2 l2 ∧ IsR Z y3 l3 ∧ IsR Z y4 l4 := by
  suffices h : ∃ v Z, Sound Tryd.prog 17 [gtv n nx x1 x2 x3 x4 dr] H v Z ∧ ∃ y1 y2 y3 y4, v = gtv n nx y1 y2 y3 y4 dr ∧ Ext H Z ∧ IsR Z y1 l1 ∧ IsR Z y2 l2 ∧ IsR Z y3 l3 ∧ IsR Z y4 l4 by
    obtain ⟨v, Z, h1, y1, y2, y3, y4, rfl, h2⟩ := h
    exact ⟨y1, y2, y3, y4, Z, h1, h2⟩
  unfold gtv
  refine Sound.runP (args := [.agg [.sc (.int .i64 n), .sc (.int .i64 nx), x1, x2, x3, x4, .sc (.int .i64 dr)]]) 30 [.cell 2 60] Tryd.func17 rfl rfl rfl rfl (by simp) (fun v Z => ∃ y1 y2 y3 y4, v = .agg [.sc (.int .i64 n), .sc (.int .i64 nx), y1, y2, y3, y4, .sc (.int .i64 dr)] ∧ Ext H Z ∧ IsR Z y1 l1 ∧ IsR Z y2 l2 ∧ IsR Z y3 l3 ∧ IsR Z y4 l4) ?_
  have o1 := h1.one
  have o2 := h2.one
  have o3 := h3.one
  have o4 := h4.one
  have c1 := fun Y => toSessSS ((Ext.more H Y).isR h1) b1
  have c2 := fun Y => toLeaseSS ((Ext.more H Y).isR h2) b2
  have c3 := fun Y => toRouteSS ((Ext.more H Y).isR h3) b3
  have c4 := fun Y => toOutSS ((Ext.more H Y).isR h4) b4
  simp -implicitDefEqProofs only [↓w_seq, ↓w_region, ↓ops_cons, ↓g_box, Nat.reduceLT, ev_tab, par0, cells_agg, ↓g_alloc, zero60, Option.map_some, ↓ops_nil, ↓g_fieldAddrT, ne_eq, Nat.reduceEqDiff, not_false_eq_true, upd_ne, upd_eq, ↓g_load, ↓g_store, alK_some, List.all_cons, one_int, one_nil, List.all_nil, Bool.and_self, fadr60_0, Nat.zero_add, fadr60_1, onS_some, wr_def, tyOk3, cells3, hap_0, List.getElem?_cons_zero, wr_c, List.length_cons, List.length_nil, Nat.reduceAdd, Nat.reduceLeDiff, true_and, hset_0, List.set_cons_zero, onS_ite, List.append_assoc, List.cons_append, List.nil_append, List.length_append, o1, o2, o3, o4, fadr52_0, fadr52_1, Nat.add_assoc, fadr52_2, rd_def, tyOk47, agg47, cells47, agg3, rd_onec, List.getElem?_cons_succ, cells_int, and_self, ovC, ovN, over_s, hset_k, List.set_cons_succ, if_true]
  refine call1S (by simp -implicitDefEqProofs only [List.map_cons, Nat.reduceLT, ev_tab, upd_eq, List.map_nil] <;> rfl) (c1 _) ?_
  simp -implicitDefEqProofs only [↓ops_cons, ↓g_fieldAddrT, List.length_append, List.length_cons, List.length_nil, Nat.zero_add, Nat.reduceAdd, Nat.reduceLT, ev_tab, ne_eq, Nat.reduceEqDiff, not_false_eq_true, upd_ne, upd_eq, fadr60_2, ↓g_store, List.append_assoc, List.cons_append, List.nil_append, ↓ops_nil, ↓w_seq, ↓w_region, fadr52_3, ↓g_load, onS_some, rd_def, tyOk48, agg48, cells48, wr_def, tyOk55, cells55, hap_k, List.getElem?_cons_succ, List.getElem?_cons_zero, wr_c, cells_sl, Nat.reduceLeDiff, List.all_cons, one_sl, List.all_nil, Bool.and_self, and_self, over_s, ovC, ovN, hset_k, List.set_cons_succ, List.set_cons_zero, if_true, hap_0, rd_onec]
  refine call1S (by simp -implicitDefEqProofs only [List.map_cons, Nat.reduceLT, ev_tab, upd_eq, List.map_nil] <;> rfl) (c2 _) ?_
  simp -implicitDefEqProofs only [↓ops_cons, ↓g_fieldAddrT, List.length_append, List.length_cons, List.length_nil, Nat.zero_add, Nat.reduceAdd, Nat.reduceLT, ev_tab, ne_eq, Nat.reduceEqDiff, not_false_eq_true, upd_ne, upd_eq, fadr60_3, ↓g_store, List.append_assoc, List.cons_append, List.nil_append, ↓ops_nil, ↓w_seq, ↓w_region, fadr52_4, ↓g_load, onS_some, rd_def, tyOk49, agg49, cells49, wr_def, tyOk56, cells56, hap_k, List.getElem?_cons_succ, List.getElem?_cons_zero, wr_c, cells_sl, Nat.reduceLeDiff, List.all_cons, one_sl, List.all_nil, Bool.and_self, and_self, over_s, ovC, ovN, hset_k, List.set_cons_succ, List.set_cons_zero, if_true, hap_0, rd_onec]
  refine call1S (by simp -implicitDefEqProofs only [List.map_cons, Nat.reduceLT, ev_tab, upd_eq, List.map_nil] <;> rfl) (c3 _) ?_
  simp -implicitDefEqProofs only [↓ops_cons, ↓g_fieldAddrT, List.length_append, List.length_cons, List.length_nil, Nat.zero_add, Nat.reduceAdd, Nat.reduceLT, ev_tab, ne_eq, Nat.reduceEqDiff, not_false_eq_true, upd_ne, upd_eq, fadr60_4, ↓g_store, List.append_assoc, List.cons_append, List.nil_append, ↓ops_nil, ↓w_seq, ↓w_region, fadr52_5, ↓g_load, onS_some, rd_def, tyOk50, agg50, cells50, wr_def, tyOk57, cells57, hap_k, List.getElem?_cons_succ, List.getElem?_cons_zero, wr_c, cells_sl, Nat.reduceLeDiff, List.all_cons, one_sl, List.all_nil, Bool.and_self, and_self, over_s, ovC, ovN, hset_k, List.set_cons_succ, List.set_cons_zero, if_true, hap_0, rd_onec]
  refine call1S (by simp -implicitDefEqProofs only [List.map_cons, Nat.reduceLT, ev_tab, upd_eq, List.map_nil] <;> rfl) (c4 _) ?_
  simp -implicitDefEqProofs only [↓ops_cons, ↓g_fieldAddrT, List.length_append, List.length_cons, List.length_nil, Nat.zero_add, Nat.reduceAdd, Nat.reduceLT, ev_tab, ne_eq, Nat.reduceEqDiff, not_false_eq_true, upd_ne, upd_eq, fadr60_5, ↓g_store, List.append_assoc, List.cons_append, List.nil_append, ↓ops_nil, ↓w_seq, ↓w_region, fadr52_6, ↓g_load, fadr60_6, rd_def, tyOk60, agg60, cells60, wr_def, ↓w_ret, retP_1, res_cell, onS_some, tyOk3, cells3, agg3, tyOk58, cells58, hap_k, List.getElem?_cons_succ, List.getElem?_cons_zero, wr_c, cells_sl, Nat.reduceLeDiff, List.all_cons, one_sl, List.all_nil, Bool.and_self, and_self, over_s, ovC, ovN, hset_k, List.set_cons_succ, List.set_cons_zero, if_true, hap_0, rd_onec, Nat.le_refl, true_and, onS_ite, rd_aggc, Nat.add_assoc, List.drop_zero, List.take_succ_cons, cells_agg, one_int, cells_int, List.take_zero]
  exact ⟨_, _, _, _, rfl, Ext.more _ _, .at (hap_k _ _ 3) rfl rfl, .at (hap_k _ _ 4) rfl rfl, .at (hap_k _ _ 5) rfl rfl, .at (hap_k _ _ 6) rfl rfl⟩
theorem eqGateS {H : AHeap} {x1 x2 x3 x4 y1 y2 y3 y4 : AV} {l1 : List (Rw kSess)} {l2 : List (Rw kLease)} {l3 : List (Rw kRoute)} {l4 : List (Rw kOut)} (n nx dr : Int) (h1 : IsR H x1 l1) (h2 : IsR H x2 l2) (h3 : IsR H x3 l3) (h4 : IsR H x4 l4) (k1 : IsR H y1 l1) (k2 : IsR H y2 l2) (k3 : IsR H y3 l3) (k4 : IsR H y4 l4)
    (b1 : l1.length ≤ 1048576) (b2 : l2.length ≤ 1048576) (b3 : l3.length ≤ 1048576) (b4 : l4.length ≤ 1048576) :
    ∃ (Z : AHeap), Sound Tryd.prog 19 [gtv n nx x1 x2 x3 x4 dr, gtv n nx y1 y2 y3 y4 dr] H (.sc (.bool true)) Z ∧ Ext H Z := by
  suffices h : ∃ v Z, Sound Tryd.prog 19 [gtv n nx x1 x2 x3 x4 dr, gtv n nx y1 y2 y3 y4 dr] H v Z ∧ v = .sc (.bool true) ∧ Ext H Z by
    obtain ⟨v, Z, h1, rfl, h2⟩ := h
    exact ⟨Z, h1, h2⟩
  unfold gtv
  refine Sound.runP (args := [.agg [.sc (.int .i64 n), .sc (.int .i64 nx), x1, x2, x3, x4, .sc (.int .i64 dr)], .agg [.sc (.int .i64 n), .sc (.int .i64 nx), y1, y2, y3, y4, .sc (.int .i64 dr)]]) 44 [.tmp 4] Tryd.func19 rfl rfl rfl rfl (by simp) (fun v Z => v = .sc (.bool true) ∧ Ext H Z) ?_
  have o1 := h1.one
  have o2 := h2.one
  have o3 := h3.one
  have o4 := h4.one
  have p1 := k1.one
  have p2 := k2.one
  have p3 := k3.one
  have p4 := k4.one
  have c1 := fun Y => eqSessSS ((Ext.more H Y).isR h1) ((Ext.more H Y).isR k1) (by omega)
  have c2 := fun Y => eqLeaseSS ((Ext.more H Y).isR h2) ((Ext.more H Y).isR k2) (by omega)
  have c3 := fun Y => eqRouteSS ((Ext.more H Y).isR h3) ((Ext.more H Y).isR k3) (by omega)
  have c4 := fun Y => eqOutSS ((Ext.more H Y).isR h4) ((Ext.more H Y).isR k4) (by omega)
  simp -implicitDefEqProofs only [↓w_seq, ↓w_region, ↓ops_cons, ↓g_box, Nat.reduceLT, ev_tab, par0, cells_agg, ne_eq, Nat.reduceEqDiff, not_false_eq_true, upd_ne, par1, ↓g_assign, ↓ops_nil, ev_const, of_bool, ↓g_fieldAddrT, upd_eq, ↓g_load, ↓g_binOp, ↓w_cond, ↓w_ret, retP_1, res_tmp, onS_some, ↓w_skip, alK_some, List.all_cons, one_int, p1, p2, p3, p4, List.all_nil, Bool.and_self, fadr60_0, Nat.zero_add, fadr60_1, fadr60_2, rd_def, tyOk55, agg55, cells55, hap_0, List.getElem?_cons_zero, rd_onec, List.getElem?_cons_succ, tyOk3, agg3, cells3, true_and, o1, o2, o3, o4, List.append_assoc, List.cons_append, List.nil_append, List.length_append, List.length_cons, List.length_nil, b_neq, decide_true, Bool.not_true, onB_false]
  refine call1S (by simp -implicitDefEqProofs only [List.map_cons, Nat.reduceLT, ev_tab, ne_eq, Nat.reduceEqDiff, not_false_eq_true, upd_ne, upd_eq, List.map_nil] <;> rfl) (c1 _) ?_
  simp -implicitDefEqProofs only [↓ops_cons, ↓g_unOp, Nat.reduceLT, ev_tab, upd_eq, u_not, Bool.not_true, Option.map_some, ↓ops_nil, ↓w_cond, ↓w_seq, ↓w_region, ↓g_assign, ↓w_ret, ev_const, of_bool, retP_1, res_tmp, onS_some, ↓w_skip, ↓g_fieldAddrT, ne_eq, Nat.reduceEqDiff, not_false_eq_true, upd_ne, fadr60_3, Nat.zero_add, ↓g_load, rd_def, tyOk56, agg56, cells56, hap_k, List.getElem?_cons_succ, List.getElem?_cons_zero, rd_onec, hap_0, onB_false]
  refine call1S (by simp -implicitDefEqProofs only [List.map_cons, Nat.reduceLT, ev_tab, ne_eq, Nat.reduceEqDiff, not_false_eq_true, upd_ne, upd_eq, List.map_nil] <;> rfl) (c2 _) ?_
  simp -implicitDefEqProofs only [↓ops_cons, ↓g_unOp, Nat.reduceLT, ev_tab, upd_eq, u_not, Bool.not_true, Option.map_some, ↓ops_nil, ↓w_cond, ↓w_seq, ↓w_region, ↓g_assign, ↓w_ret, ev_const, of_bool, retP_1, res_tmp, onS_some, ↓w_skip, ↓g_fieldAddrT, ne_eq, Nat.reduceEqDiff, not_false_eq_true, upd_ne, fadr60_4, Nat.zero_add, ↓g_load, rd_def, tyOk57, agg57, cells57, hap_k, List.getElem?_cons_succ, List.getElem?_cons_zero, rd_onec, hap_0, onB_false]
  refine call1S (by simp -implicitDefEqProofs only [List.map_cons, Nat.reduceLT, ev_tab, ne_eq, Nat.reduceEqDiff, not_false_eq_true, upd_ne, upd_eq, List.map_nil] <;> rfl) (c3 _) ?_
  simp -implicitDefEqProofs only [↓ops_cons, ↓g_unOp, Nat.reduceLT, ev_tab, upd_eq, u_not, Bool.not_true, Option.map_some, ↓ops_nil, ↓w_cond, ↓w_seq, ↓w_region, ↓g_assign, ↓w_ret, ev_const, of_bool, retP_1, res_tmp, onS_some, ↓w_skip, ↓g_fieldAddrT, ne_eq, Nat.reduceEqDiff, not_false_eq_true, upd_ne, fadr60_5, Nat.zero_add, ↓g_load, rd_def, tyOk58, agg58, cells58, hap_k, List.getElem?_cons_succ, List.getElem?_cons_zero, rd_onec, hap_0, onB_false]
  refine call1S (by simp -implicitDefEqProofs only [List.map_cons, Nat.reduceLT, ev_tab, ne_eq, Nat.reduceEqDiff, not_false_eq_true, upd_ne, upd_eq, List.map_nil] <;> rfl) (c4 _) ?_
  simp -implicitDefEqProofs only [↓ops_cons, ↓g_unOp, Nat.reduceLT, ev_tab, upd_eq, u_not, Bool.not_true, Option.map_some, ↓ops_nil, ↓w_cond, ↓w_seq, ↓w_region, ↓g_assign, ↓w_ret, ev_const, of_bool, retP_1, res_tmp, onS_some, ↓w_skip, ↓g_fieldAddrT, ne_eq, Nat.reduceEqDiff, not_false_eq_true, upd_ne, fadr60_6, Nat.zero_add, ↓g_load, ↓g_binOp, true_and, rd_def, tyOk3, agg3, cells3, hap_k, List.getElem?_cons_succ, List.getElem?_cons_zero, rd_onec, hap_0, b_neq, decide_true, onB_false]
  exact Ext.more _ _
end Go.Proofs.YtfgmmklljibbiaaDoor.Sim

