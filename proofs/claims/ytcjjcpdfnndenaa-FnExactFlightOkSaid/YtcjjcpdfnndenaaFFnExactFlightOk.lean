/- FlightOk: the law returns true. -/
import Derived.Test.YtcjjcpdfnndenaaFFlight3
import Derived.Test.YtcjjcpdfnndenaaFFlightLaw
namespace Go.Proofs.Ytcjjcpdfnndenaa.Sim
open Go
set_option maxRecDepth 100000
set_option maxHeartbeats 40000000
set_option linter.unusedSimpArgs false
set_option linter.unusedVariables false
theorem lawFnExactFlightOk (H : AHeap) (x : AV) (s : List Int) (hs : s.length ≤ 9223372036854775807) (hx : IsL H x .i64 s) (y : AV) (g : List Int) (hg : g.length ≤ 9223372036854775807) (hy : IsL H y .i64 g) (t : Int) : ∃ H', Sound Try.prog 5 [.agg [x, y, .sc (.int .i64 t)]] H (.sc (.bool true)) H' := by
  have key : ∃ v H', Sound Try.prog 5 [.agg [x, y, .sc (.int .i64 t)]] H v H' ∧ v = .sc (.bool true) := by
    refine Sound.runP (args := [.agg [x, y, .sc (.int .i64 t)]]) 27 [.tmp 2] Try.func5 rfl rfl rfl rfl (by simp) (fun v Z => v = .sc (.bool true)) ?_
    have x1 := hx.one
    have y1 := hy.one
    obtain ⟨A, hA⟩ : ∃ A : Reg, A = ⟨[x, y, .sc (.int .i64 t)], true, true⟩ := ⟨_, rfl⟩
    have e0 := Ext.more H [A]
    have a0 : (H ++ [A])[H.length]? = some ⟨[x, y, .sc (.int .i64 t)], true, true⟩ := by rw [← hA]; exact hap_0 H [A]
    obtain ⟨n, Z1, n1, n2, n3⟩ := szFlightS t (e0.isL hx) (e0.isL hy) hs hg 1048576 (by omega)
    have a1 := n2.at a0
    have e1 := e0.trans n2
    by_cases hn : n < 0
    · unfold flt at n1
      simp -implicitDefEqProofs only [↓w_seq, ↓w_region, ↓ops_cons, ↓g_box, Nat.reduceLT, ev_tab, par0, cells_agg, ↓g_assign, ↓ops_nil, ev_const, of_bool, of_int, ↓g_load, ne_eq, Nat.reduceEqDiff, not_false_eq_true, upd_ne, upd_eq, ↓g_move, alK_some, List.all_cons, x1, y1, one_int, List.all_nil, Bool.and_self, rd_def, tyOk29, agg29, cells29, hap_0, List.getElem?_cons_zero, rd_aggc, Nat.zero_add, List.length_cons, List.length_nil, Nat.reduceAdd, Nat.le_refl, List.drop_zero, List.take_succ_cons, List.take_zero, if_true, onS_some, true_and]
      rw [← hA]
      refine call1S (by simp -implicitDefEqProofs only [List.map_cons, Nat.reduceLT, ev_tab, ne_eq, Nat.reduceEqDiff, not_false_eq_true, upd_ne, upd_eq, List.map_nil] <;> rfl) n1 ?_
      simp -implicitDefEqProofs only [↓ops_cons, ↓g_assign, ↓ops_nil, ↓w_seq, ↓w_region, Nat.reduceLT, ev_tab, upd_eq, ↓g_move, ↓g_binOp, ev_const, of_int, b_lss, hn, decide_true, ↓w_cond, ↓w_ret, of_bool, retP_1, res_tmp, onS_some, ↓w_skip, ↓g_load, ne_eq, Nat.reduceEqDiff, not_false_eq_true, upd_ne, rd_def, tyOk29, agg29, cells29, onB_true]
    · obtain ⟨hs2, hg2⟩ := n3 hn
      obtain ⟨b, hb⟩ : ∃ b : Bool, b = true ↔ FlOk s g t := by
        by_cases h : FlOk s g t
        · exact ⟨true, fun _ => h, fun _ => rfl⟩
        · exact ⟨false, fun h => Bool.noConfusion h, fun q => absurd q h⟩
      obtain ⟨p2, q2, Z2, c1, c2, c3, c4, c5, c6⟩ := toFlightS t (e1.isL hx) (e1.isL hy) hs2 hg2
      have a2 := c2.at a1
      obtain ⟨Z3, d1, d2⟩ := flOkS t b hb (IsL.mk c5) (IsL.mk c6) hs2 hg2
      have a3 := d2.at a2
      have e3 := (e1.trans c2).trans d2
      obtain ⟨p4, q4, Z4, f1, f2, f3, f4, f5, f6⟩ := toFlightS t (e3.isL hx) (e3.isL hy) hs2 hg2
      obtain ⟨C, hC⟩ : ∃ C : Reg, C = ⟨[.sl p4 0 s.length 1, .sl q4 0 g.length 1, .sc (.int .i64 t)], true, true⟩ := ⟨_, rfl⟩
      have x4 := Ext.more Z4 [C]
      have a4 := (f2.trans x4).at a3
      have y4 : (Z4 ++ [C])[Z4.length]? = some ⟨[.sl p4 0 s.length 1, .sl q4 0 g.length 1, .sc (.int .i64 t)], true, true⟩ := by rw [← hC]; exact at_end Z4 C
      have r4 := x4.at f5
      have s4 := x4.at f6
      obtain ⟨Z5, g1, g2⟩ := flOkI t b hb (IsL.mk r4) (IsL.mk s4) hs2 hg2
      have a5 := g2.at a4
      have y5 := g2.at y4
      have r5 := g2.at r4
      have s5 := g2.at s4
      have e5 := ((e3.trans f2).trans x4).trans g2
      obtain ⟨p6, q6, Z6, h1, h2, h3, h4, h5, h6⟩ := toFlightS t (e5.isL hx) (e5.isL hy) hs2 hg2
      have y6 := h2.at y5
      obtain ⟨Z7, i1, i2⟩ := eqFlightS t (IsL.mk (h2.at r5)) (IsL.mk (h2.at s5)) (IsL.mk h5) (IsL.mk h6) hs2 hg2
      unfold flt at n1 c1 d1 f1 g1 h1 i1
      simp -implicitDefEqProofs only [↓w_seq, ↓w_region, ↓ops_cons, ↓g_box, Nat.reduceLT, ev_tab, par0, cells_agg, ↓g_assign, ↓ops_nil, ev_const, of_bool, of_int, ↓g_load, ne_eq, Nat.reduceEqDiff, not_false_eq_true, upd_ne, upd_eq, ↓g_move, alK_some, List.all_cons, x1, y1, one_int, List.all_nil, Bool.and_self, rd_def, tyOk29, agg29, cells29, hap_0, List.getElem?_cons_zero, rd_aggc, Nat.zero_add, List.length_cons, List.length_nil, Nat.reduceAdd, Nat.le_refl, List.drop_zero, List.take_succ_cons, List.take_zero, if_true, onS_some, true_and]
      rw [← hA]
      refine call1S (by simp -implicitDefEqProofs only [List.map_cons, Nat.reduceLT, ev_tab, ne_eq, Nat.reduceEqDiff, not_false_eq_true, upd_ne, upd_eq, List.map_nil] <;> rfl) n1 ?_
      simp -implicitDefEqProofs only [↓ops_cons, ↓g_assign, ↓ops_nil, ↓w_seq, ↓w_region, Nat.reduceLT, ev_tab, upd_eq, ↓g_move, ↓g_binOp, ev_const, of_int, b_lss, hn, decide_false, ↓w_cond, ↓w_ret, of_bool, retP_1, res_tmp, onS_some, ↓w_skip, ↓g_load, ne_eq, Nat.reduceEqDiff, not_false_eq_true, upd_ne, rd_def, tyOk29, agg29, cells29, a1, rd_aggc, Nat.zero_add, List.length_cons, List.length_nil, Nat.reduceAdd, Nat.le_refl, List.drop_zero, List.take_succ_cons, List.take_zero, if_true, onB_false]
      refine call1S (by simp -implicitDefEqProofs only [List.map_cons, Nat.reduceLT, ev_tab, upd_eq, List.map_nil] <;> rfl) c1 ?_
      simp -implicitDefEqProofs only [↓ops_cons]
      refine call1S (by simp -implicitDefEqProofs only [List.map_cons, Nat.reduceLT, ev_tab, upd_eq, List.map_nil] <;> rfl) d1 ?_
      simp -implicitDefEqProofs only [↓ops_cons, ↓g_assign, ↓ops_nil, ↓w_seq, ↓w_region, Nat.reduceLT, ev_tab, upd_eq, ↓g_load, ne_eq, Nat.reduceEqDiff, not_false_eq_true, upd_ne, rd_def, tyOk29, agg29, cells29, a3, rd_aggc, Nat.zero_add, List.length_cons, List.length_nil, Nat.reduceAdd, Nat.le_refl, List.drop_zero, List.take_succ_cons, List.take_zero, if_true, onS_some]
      refine call1S (by simp -implicitDefEqProofs only [List.map_cons, Nat.reduceLT, ev_tab, upd_eq, List.map_nil] <;> rfl) f1 ?_
      simp -implicitDefEqProofs only [↓ops_cons, ↓g_alloc, zero32, Option.map_some, ↓g_store, Nat.reduceLT, ev_tab, upd_eq, ne_eq, Nat.reduceEqDiff, not_false_eq_true, upd_ne, ↓ops_nil, ↓w_seq, ↓w_region, ↓g_load, alK_some, List.all_cons, one_nil, one_int, List.all_nil, Bool.and_self, wr_def, tyOk32, cells32, hap_0, List.getElem?_cons_zero, wr_c, cells_agg, List.length_cons, List.length_nil, Nat.zero_add, Nat.reduceAdd, Nat.le_refl, one_sl, and_self, ovr_fm, ovr_fn, hset_0, List.set_cons_zero, if_true, rd_def, agg32, onS_some, rd_aggc, List.drop_zero, List.take_succ_cons, List.take_zero, true_and]
      rw [← hC]
      refine call1S (by simp -implicitDefEqProofs only [List.map_cons, Nat.reduceLT, ev_tab, upd_eq, List.map_nil] <;> rfl) g1 ?_
      simp -implicitDefEqProofs only [↓ops_cons, ↓g_assign, ↓ops_nil, ↓w_seq, ↓w_region, Nat.reduceLT, ev_tab, upd_eq, ↓g_move, ↓g_binOp, ne_eq, Nat.reduceEqDiff, not_false_eq_true, upd_ne, Try.underlying4, v_neq, beq_self_eq_true, Bool.not_true, ↓w_cond, ↓w_ret, ev_const, of_bool, retP_1, res_tmp, onS_some, ↓w_skip, onB_false]
      refine drawn [(0, 0), (0, 3), (1, 0)] follows (by kernel_rfl) (by kernel_rfl) ?_
      simp -implicitDefEqProofs only [↓dops_cons, ↓g_load, Nat.reduceLT, ev_tab, ne_eq, Nat.reduceEqDiff, not_false_eq_true, upd_ne, upd_eq, rd_def, tyOk32, agg32, cells32, y5, rd_aggc, Nat.zero_add, List.length_cons, List.length_nil, Nat.reduceAdd, Nat.le_refl, List.drop_zero, List.take_succ_cons, List.take_zero, if_true, tyOk29, agg29, cells29, a5, onS_some]
      refine call1S (by simp -implicitDefEqProofs only [List.map_cons, Nat.reduceLT, ev_tab, upd_eq, List.map_nil] <;> rfl) h1 ?_
      simp -implicitDefEqProofs only [↓dops_cons]
      refine call1S (by simp -implicitDefEqProofs only [List.map_cons, Nat.reduceLT, ev_tab, ne_eq, Nat.reduceEqDiff, not_false_eq_true, upd_ne, upd_eq, List.map_nil] <;> rfl) i1 ?_
      simp -implicitDefEqProofs only [↓dops_cons, ↓g_unOp, Nat.reduceLT, ev_tab, upd_eq, u_not, Bool.not_true, Option.map_some, ↓dops_p, ↓w_cond, ↓w_seq, ↓w_region, ↓ops_cons, ↓g_assign, ↓ops_nil, ↓w_ret, ev_const, of_bool, retP_1, res_tmp, onS_some, ↓w_skip, onB_false, and_true]
      exact pairs_cons (same_H rfl) (pairs_cons (same_ld _ _ Z4.length 0 rfl rfl (y6.trans y5.symm)) (pairs_cons (same_H rfl) pairs_nil))
  obtain ⟨v, H', h1, rfl⟩ := key
  exact ⟨H', h1⟩
end Go.Proofs.Ytcjjcpdfnndenaa.Sim

