/- BoxWhole: the law returns true. -/
import Derived.Test.YtheeehbaholjmaaFBoxWh
namespace Go.Proofs.Ytheeehbaholjmaa.Sim
open Go
set_option maxRecDepth 100000
set_option maxHeartbeats 4000000
set_option linter.unusedSimpArgs false
set_option linter.unusedVariables false
theorem lawFnExactBoxWhole (H : AHeap) (i t : Int) (z : ByteArray) (hz : z.size ≤ 9223372036854775807) (x : AV) (l : List Bool) (hl : l.length ≤ 9223372036854775807) (hx : IsB H x l) : ∃ H', Sound Try.prog 4 [.agg [.sc (.int .i64 i), .sc (.int .i64 t), .sc (.string z), x]] H (.sc (.bool true)) H' := by
  have key : ∃ v H', Sound Try.prog 4 [.agg [.sc (.int .i64 i), .sc (.int .i64 t), .sc (.string z), x]] H v H' ∧ v = .sc (.bool true) := by
    refine Sound.runP (args := [.agg [.sc (.int .i64 i), .sc (.int .i64 t), .sc (.string z), x]]) 40 [.tmp 2] Try.func4 rfl rfl rfl rfl (by simp) (fun v Z => v = .sc (.bool true)) ?_
    have x1 := hx.one
    have e0 := Ext.more H [⟨[.sc (.int .i64 i), .sc (.int .i64 t), .sc (.string z), x], true, true⟩]
    have hat := hap_0 H [⟨[.sc (.int .i64 i), .sc (.int .i64 t), .sc (.string z), x], true, true⟩]
    obtain ⟨n, Z1, n1, n2, n3, n4⟩ := szBoxS (e0.isB hx) hl i t z hz
    unfold bx at n1
    simp -implicitDefEqProofs only [↓w_seq, ↓w_region, ↓ops_cons, ↓g_box, Nat.reduceLT, ev_tab, par0, cells_agg, ↓g_assign, ↓ops_nil, ev_const, of_bool, of_int, ↓g_load, ne_eq, Nat.reduceEqDiff, not_false_eq_true, upd_ne, upd_eq, ↓g_move, alK_some, List.all_cons, one_int, one_str, x1, List.all_nil, Bool.and_self, rd_def, tyOk32, agg32, cells32, hap_0, List.getElem?_cons_zero, rd_aggc, Nat.zero_add, List.length_cons, List.length_nil, Nat.reduceAdd, Nat.le_refl, List.drop_zero, List.take_succ_cons, List.take_zero, if_true, onS_some, true_and]
    refine call1S (by simp -implicitDefEqProofs only [List.map_cons, Nat.reduceLT, ev_tab, ne_eq, Nat.reduceEqDiff, not_false_eq_true, upd_ne, upd_eq, List.map_nil] <;> rfl) n1 ?_
    have h1 := n2.at hat
    by_cases hn : n < 0
    · simp -implicitDefEqProofs only [↓ops_cons, ↓g_assign, ↓ops_nil, ↓w_seq, ↓w_region, Nat.reduceLT, ev_tab, upd_eq, ↓g_move, ↓g_binOp, ev_const, of_int, b_lss, hn, decide_true, ↓w_cond, ↓w_ret, of_bool, retP_1, res_tmp, onS_some, ↓w_skip, ↓g_load, ne_eq, Nat.reduceEqDiff, not_false_eq_true, upd_ne, rd_def, tyOk32, agg32, cells32, onB_true]
    · obtain ⟨n5, n6⟩ := n3 hn
      have hl2 : l.length ≤ 1000000000 := by omega
      have e1 := e0.trans n2
      obtain ⟨w, hw⟩ : ∃ w : Bool, w = true ↔ (okBx i t z l.length ∧ allT l) := by
        by_cases h : okBx i t z l.length ∧ allT l
        · exact ⟨true, by simp [h]⟩
        · exact ⟨false, by simp [h]⟩
      obtain ⟨q1, Z2, a1, a2, a3, a4⟩ := toBoxS (e1.isB hx) hl2 i t z
      have e2 := e1.trans a2
      obtain ⟨Z3, b1, b2⟩ := bwS (.mk a4) hl2 i t z w hw
      have e3 := e2.trans b2
      obtain ⟨q2, Z4, c1, c2, c3, c4⟩ := toBoxS (e3.isB hx) hl2 i t z
      have e4 := e3.trans c2
      have h4 := (a2.trans (b2.trans c2)).at h1
      unfold bx at a1 b1 c1
      unfold bwV at b1
      simp -implicitDefEqProofs only [↓ops_cons, ↓g_assign, ↓ops_nil, ↓w_seq, ↓w_region, Nat.reduceLT, ev_tab, upd_eq, ↓g_move, ↓g_binOp, ev_const, of_int, b_lss, hn, decide_false, ↓w_cond, ↓w_ret, of_bool, retP_1, res_tmp, onS_some, ↓w_skip, ↓g_load, ne_eq, Nat.reduceEqDiff, not_false_eq_true, upd_ne, rd_def, tyOk32, agg32, cells32, h1, rd_aggc, Nat.zero_add, List.length_cons, List.length_nil, Nat.reduceAdd, Nat.le_refl, List.drop_zero, List.take_succ_cons, List.take_zero, if_true, onB_false]
      refine call1S (by simp -implicitDefEqProofs only [List.map_cons, Nat.reduceLT, ev_tab, upd_eq, List.map_nil] <;> rfl) a1 ?_
      simp -implicitDefEqProofs only [↓ops_cons]
      refine call1S (by simp -implicitDefEqProofs only [List.map_cons, Nat.reduceLT, ev_tab, upd_eq, List.map_nil] <;> rfl) b1 ?_
      have h3 := (a2.trans b2).at h1
      simp -implicitDefEqProofs only [↓ops_cons, ↓g_move, ↓g_extract, Nat.reduceLT, ev_tab, upd_eq, ext_0, ne_eq, Nat.reduceEqDiff, not_false_eq_true, upd_ne, ext_1, ↓g_assign, ↓ops_nil, ↓w_seq, ↓w_region, ↓g_load, rd_def, tyOk32, agg32, cells32, h3, rd_aggc, Nat.zero_add, List.length_cons, List.length_nil, Nat.reduceAdd, Nat.le_refl, List.drop_zero, List.take_succ_cons, List.take_zero, if_true, onS_some]
      refine call1S (by simp -implicitDefEqProofs only [List.map_cons, Nat.reduceLT, ev_tab, upd_eq, List.map_nil] <;> rfl) c1 ?_
      have e5 := Ext.more Z4 [⟨[.sc (.int .i64 i), .sc (.int .i64 t), .sc (.string z), .sl q2 0 l.length 1], true, true⟩]
      have hat5 := hap_0 Z4 [⟨[.sc (.int .i64 i), .sc (.int .i64 t), .sc (.string z), .sl q2 0 l.length 1], true, true⟩]
      obtain ⟨Z6, d1, d2⟩ := bwI ((e5.isB (.mk c4))) hl2 i t z w hw
      unfold bx bwV at d1
      simp -implicitDefEqProofs only [↓ops_cons, ↓g_alloc, zero35, Option.map_some, ↓g_store, Nat.reduceLT, ev_tab, upd_eq, ne_eq, Nat.reduceEqDiff, not_false_eq_true, upd_ne, ↓ops_nil, ↓w_seq, ↓w_region, ↓g_load, alK_some, List.all_cons, one_int, one_str, one_nil, List.all_nil, Bool.and_self, wr_def, tyOk35, cells35, hap_0, List.getElem?_cons_zero, wr_c, cells_agg, List.length_cons, List.length_nil, Nat.zero_add, Nat.reduceAdd, Nat.le_refl, one_sl, and_self, ovr_m, ovr_n, hset_0, List.set_cons_zero, if_true, rd_def, agg35, onS_some, rd_aggc, List.drop_zero, List.take_succ_cons, List.take_zero, true_and]
      refine call1S (by simp -implicitDefEqProofs only [List.map_cons, Nat.reduceLT, ev_tab, upd_eq, List.map_nil] <;> rfl) d1 ?_
      have h6 := (e5.trans d2).at h4
      have h7 := d2.at hat5
      simp -implicitDefEqProofs only [↓ops_cons, ↓g_move, ↓g_extract, Nat.reduceLT, ev_tab, upd_eq, ext_0, ne_eq, Nat.reduceEqDiff, not_false_eq_true, upd_ne, ext_1, ↓g_assign, ↓ops_nil, ↓w_seq, ↓w_region, ↓g_binOp, onS_some, t_neq, beq_self_eq_true, Bool.not_true, yielded_tab, dstAt_s, dstAt_0, ybv_some, boolOf_b, ↓g_guard_t, Try.underlying4, v_neq, ↓g_pick, ev_const, of_bool, pick_b, Bool.false_eq_true, if_false, ↓w_cond, ↓w_ret, retP_1, res_tmp, ↓w_skip, onB_false]
      obtain ⟨q3, Z7, f1, f2, f3, f4⟩ := toBoxS ((e4.trans (e5.trans d2)).isB hx) hl2 i t z
      have h8 := f2.at h7
      obtain ⟨Z8, g1, g2⟩ := eqBoxS ((f2.isB ((e5.trans d2).isB (.mk c4)))) (.mk f4) hl2 i t z
      unfold bx at f1 g1
      refine drawn [(0, 0), (0, 3), (1, 0)] follows (by kernel_rfl) (by kernel_rfl) ?_
      simp -implicitDefEqProofs only [↓dops_cons, ↓g_load, Nat.reduceLT, ev_tab, ne_eq, Nat.reduceEqDiff, not_false_eq_true, upd_ne, upd_eq, rd_def, tyOk35, agg35, cells35, h7, rd_aggc, Nat.zero_add, List.length_cons, List.length_nil, Nat.reduceAdd, Nat.le_refl, List.drop_zero, List.take_succ_cons, List.take_zero, if_true, tyOk32, agg32, cells32, h6, onS_some]
      refine call1S (by simp -implicitDefEqProofs only [List.map_cons, Nat.reduceLT, ev_tab, upd_eq, List.map_nil] <;> rfl) f1 ?_
      simp -implicitDefEqProofs only [↓dops_cons]
      refine call1S (by simp -implicitDefEqProofs only [List.map_cons, Nat.reduceLT, ev_tab, ne_eq, Nat.reduceEqDiff, not_false_eq_true, upd_ne, upd_eq, List.map_nil] <;> rfl) g1 ?_
      simp -implicitDefEqProofs only [↓dops_cons, ↓g_unOp, Nat.reduceLT, ev_tab, upd_eq, u_not, Bool.not_true, Option.map_some, ↓dops_p, ↓w_cond, ↓w_seq, ↓w_region, ↓ops_cons, ↓g_assign, ↓ops_nil, ↓w_ret, ev_const, of_bool, retP_1, res_tmp, onS_some, ↓w_skip, onB_false, and_true]
      exact pairs_cons (same_H rfl) (pairs_cons (same_ld _ _ Z4.length 0 rfl rfl (h8.trans h7.symm)) (pairs_cons (same_H rfl) pairs_nil))
  obtain ⟨v, H', h1, rfl⟩ := key
  exact ⟨H', h1⟩
end Go.Proofs.Ytheeehbaholjmaa.Sim

