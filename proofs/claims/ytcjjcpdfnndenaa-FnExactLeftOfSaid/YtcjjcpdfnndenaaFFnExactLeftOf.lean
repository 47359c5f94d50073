/- LeftOf: the law returns true. -/
import Derived.Test.YtcjjcpdfnndenaaFFlightLaw
namespace Go.Proofs.Ytcjjcpdfnndenaa.Sim
open Go
set_option maxRecDepth 100000
set_option maxHeartbeats 40000000
set_option linter.unusedSimpArgs false
set_option linter.unusedVariables false
theorem lawFnExactLeftOf (H : AHeap) (x : AV) (s : List Int) (hs : s.length ≤ 9223372036854775807) (hx : IsL H x .i64 s) (y : AV) (g : List Int) (hg : g.length ≤ 9223372036854775807) (hy : IsL H y .i64 g) (t : Int) : ∃ H', Sound Try.prog 4 [.agg [x, y, .sc (.int .i64 t)]] H (.sc (.bool true)) H' := by
  have key : ∃ v H', Sound Try.prog 4 [.agg [x, y, .sc (.int .i64 t)]] H v H' ∧ v = .sc (.bool true) := by
    refine Sound.runP (args := [.agg [x, y, .sc (.int .i64 t)]]) 69 [.tmp 2] Try.func4 rfl rfl rfl rfl (by simp) (fun v Z => v = .sc (.bool true)) ?_
    have x1 := hx.one
    have y1 := hy.one
    obtain ⟨A, hA⟩ : ∃ A : Reg, A = ⟨[x, y, .sc (.int .i64 t)], true, true⟩ := ⟨_, rfl⟩
    have e0 := Ext.more H [A]
    have a0 : (H ++ [A])[H.length]? = some ⟨[x, y, .sc (.int .i64 t)], true, true⟩ := by rw [← hA]; exact hap_0 H [A]
    obtain ⟨n, Z1, n1, n2, n3⟩ := szFlightS t (e0.isL hx) (e0.isL hy) hs hg 1048576 (by omega)
    have a1 := n2.at a0
    have e1 := e0.trans n2
    by_cases hn : n < 0
    · unfold flt at n1
      simp -implicitDefEqProofs only [↓w_seq, ↓w_region, ↓ops_cons, ↓g_box, Nat.reduceLT, ev_tab, par0, cells_agg, ↓g_assign, ↓ops_nil, ev_const, of_bool, of_int, ↓g_load, ne_eq, Nat.reduceEqDiff, not_false_eq_true, upd_ne, upd_eq, ↓g_move, alK_some, List.all_cons, x1, y1, one_int, List.all_nil, Bool.and_self, rd_def, tyOk29, agg29, cells29, hap_0, List.getElem?_cons_zero, rd_aggc, Nat.zero_add, List.length_cons, List.length_nil, Nat.reduceAdd, Nat.le_refl, List.drop_zero, List.take_succ_cons, List.take_zero, if_true, onS_some, true_and]
      rw [← hA]
      refine call1S (by simp -implicitDefEqProofs only [List.map_cons, Nat.reduceLT, ev_tab, ne_eq, Nat.reduceEqDiff, not_false_eq_true, upd_ne, upd_eq, List.map_nil] <;> rfl) n1 ?_
      simp -implicitDefEqProofs only [↓ops_cons, ↓g_assign, ↓ops_nil, ↓w_seq, ↓w_region, Nat.reduceLT, ev_tab, upd_eq, ↓g_move, ↓g_binOp, ev_const, of_int, b_lss, hn, decide_true, ↓w_cond, ↓w_ret, of_bool, retP_1, res_tmp, onS_some, ↓w_skip, ↓g_load, ne_eq, Nat.reduceEqDiff, not_false_eq_true, upd_ne, rd_def, tyOk29, agg29, cells29, onB_true]
    · obtain ⟨hs2, hg2⟩ := n3 hn
      have hll := leftL_len s g
      obtain ⟨p2, q2, Z2, c1, c2, c3, c4, c5, c6⟩ := toFlightS t (e1.isL hx) (e1.isL hy) hs2 hg2
      have a2 := c2.at a1
      obtain ⟨qw, Z3, d1, d2, d3, d4⟩ := leftS t (IsL.mk c5) (IsL.mk c6) hs2 hg2
      have hI := fun (G : AHeap) (p q : Nat) (h : G[p]? = some ⟨ints .i64 s, true, true⟩) (h' : G[q]? = some ⟨ints .i64 g, true, true⟩) => leftI t (IsL.mk h) (IsL.mk h') hs2 hg2
      generalize leftL s g = L at *
      have a3 := d2.at a2
      have e3 := (e1.trans c2).trans d2
      obtain ⟨p4, q4, Z4, f1, f2, f3, f4, f5, f6⟩ := toFlightS t (e3.isL hx) (e3.isL hy) hs2 hg2
      obtain ⟨C, hC⟩ : ∃ C : Reg, C = ⟨[.sl p4 0 s.length 1, .sl q4 0 g.length 1, .sc (.int .i64 t)], true, true⟩ := ⟨_, rfl⟩
      have x4 := Ext.more Z4 [C]
      have a4 := (f2.trans x4).at a3
      have w4 := (f2.trans x4).at d4
      have y4 : (Z4 ++ [C])[Z4.length]? = some ⟨[.sl p4 0 s.length 1, .sl q4 0 g.length 1, .sc (.int .i64 t)], true, true⟩ := by rw [← hC]; exact at_end Z4 C
      have r4 := x4.at f5
      have s4 := x4.at f6
      obtain ⟨qg, Z5, g1, g2, g3, g4⟩ := hI (Z4 ++ [C]) p4 q4 r4 s4
      have a5 := g2.at a4
      have w5 := g2.at w4
      have y5 := g2.at y4
      have r5 := g2.at r4
      have s5 := g2.at s4
      have e5 := ((e3.trans f2).trans x4).trans g2
      have q1 := eqS (IsL.mk g4) (IsL.mk w5) (by omega) (by omega)
      obtain ⟨p6, q6, Z6, h1, h2, h3, h4, h5, h6⟩ := toFlightS t (e5.isL hx) (e5.isL hy) hs2 hg2
      have y6 := h2.at y5
      obtain ⟨Z7, i1, i2⟩ := eqFlightS t (IsL.mk (h2.at r5)) (IsL.mk (h2.at s5)) (IsL.mk h5) (IsL.mk h6) hs2 hg2
      have k7 := h2.trans i2
      have a7 := k7.at a5
      have w7 := k7.at w5
      have y7 := k7.at y5
      have r7 := k7.at r5
      have s7 := k7.at s5
      have u7 := k7.at g4
      have e7 := e5.trans k7
      -- where all lies
      have z1 : H.length < Z1.length := at_lt a1
      have z2 : Z1.length ≤ p2 := c3
      have z3 : Z1.length ≤ Z2.length := c2.1
      have z4 : Z2.length ≤ qw := d3
      have z5 : qw < Z3.length := at_lt d4
      have z6 : Z3.length ≤ p4 := f3
      have z7 : q4 < Z4.length := at_lt f6
      have z8 : Z4.length + 1 ≤ qg := by rw [List.length_append] at g3; exact g3
      have z9 : qg < Z7.length := at_lt u7
      have z10 : Z4.length < Z7.length := at_lt y7
      obtain ⟨Z8, m1, m2, m3, m4, m5⟩ := markFlightS t (Own.sl r7) (Own.sl s7) hs2 hg2 (fun r o n k e => by
        injection e with e1
        subst e1
        exact .sl (by omega))
      have keep8 : ∀ i, i < Z7.length → i ≠ p4 → i ≠ q4 → Z8[i]? = Z7[i]? := fun i hi h1 h2 => m5 i hi (.sl h1) (.sl h2)
      have a8 := (keep8 H.length (by omega) (by omega) (by omega)).trans a7
      have w8 := (keep8 qw (by omega) (by omega) (by omega)).trans w7
      have u8 := (keep8 qg (by omega) (by omega) (by omega)).trans u7
      have y8 := (keep8 Z4.length (by omega) (by omega) (by omega)).trans y7
      have q2 := eqS (IsL.mk u8) (IsL.mk w8) (by omega) (by omega)
      have m6 := markS u8 (by omega)
      obtain ⟨Z9, hZ9⟩ : ∃ Z, Z = Z8.set qg ⟨ints .i64 (marked 1 L.length), true, true⟩ := ⟨_, rfl⟩
      rw [← hZ9] at m6
      have keep9 : ∀ i, i < Z7.length → i ≠ p4 → i ≠ q4 → i ≠ qg → Z9[i]? = Z7[i]? := fun i hi h1 h2 h3 => by
        rw [hZ9, List.getElem?_set_ne (fun e => h3 e.symm)]
        exact keep8 i hi h1 h2
      have a9 := (keep9 H.length (by omega) (by omega) (by omega) (by omega)).trans a7
      have w9 := (keep9 qw (by omega) (by omega) (by omega) (by omega)).trans w7
      have u9 : Z9[qg]? = some ⟨ints .i64 (marked 1 L.length), true, true⟩ := by
        rw [hZ9]
        exact List.getElem?_set_self (at_lt u8)
      have e9 : Ext H Z9 := ⟨by rw [hZ9, List.length_set]; have := e7.1; omega, fun i hi => (keep9 i (by omega) (by omega) (by omega) (by omega)).trans (e7.2 i hi)⟩
      have hd := heldS (x := .sl qg 0 L.length 1) (n := L.length) (IsL.at u9 (marked_len _ _)) (by omega)
      obtain ⟨p10, q10, Z10, o1, o2, o3, o4, o5, o6⟩ := toFlightS t (e9.isL hx) (e9.isL hy) hs2 hg2
      obtain ⟨qh, Z11, v1, v2, v3, v4⟩ := hI Z10 p10 q10 o5 o6
      have w11 := v2.at (o2.at w9)
      have u11 := v2.at (o2.at u9)
      have q3 := eqS (IsL.mk v4) (IsL.mk w11) (by omega) (by omega)
      have hd2 := heldS (x := .sl qg 0 L.length 1) (n := L.length) (IsL.at u11 (marked_len _ _)) (by omega)
      simp only [decide_true] at q1 q2 q3
      have kn : ¬ (1 : Int) + s.length + g.length < 0 := by omega
      have kl : ¬ (L.length : Int) + 1 < 0 := by omega
      unfold flt at n1 c1 d1 f1 g1 h1 i1 m1 o1 v1
      simp -implicitDefEqProofs only [↓w_seq, ↓w_region, ↓ops_cons, ↓g_box, Nat.reduceLT, ev_tab, par0, cells_agg, ↓g_assign, ↓ops_nil, ev_const, of_bool, of_int, ↓g_load, ne_eq, Nat.reduceEqDiff, not_false_eq_true, upd_ne, upd_eq, ↓g_move, alK_some, List.all_cons, x1, y1, one_int, List.all_nil, Bool.and_self, rd_def, tyOk29, agg29, cells29, hap_0, List.getElem?_cons_zero, rd_aggc, Nat.zero_add, List.length_cons, List.length_nil, Nat.reduceAdd, Nat.le_refl, List.drop_zero, List.take_succ_cons, List.take_zero, if_true, onS_some, true_and]
      rw [← hA]
      refine call1S (by simp -implicitDefEqProofs only [List.map_cons, Nat.reduceLT, ev_tab, ne_eq, Nat.reduceEqDiff, not_false_eq_true, upd_ne, upd_eq, List.map_nil] <;> rfl) n1 ?_
      simp -implicitDefEqProofs only [↓ops_cons, ↓g_assign, ↓ops_nil, ↓w_seq, ↓w_region, Nat.reduceLT, ev_tab, upd_eq, ↓g_move, ↓g_binOp, ev_const, of_int, b_lss, hn, decide_false, ↓w_cond, ↓w_ret, of_bool, retP_1, res_tmp, onS_some, ↓w_skip, ↓g_load, ne_eq, Nat.reduceEqDiff, not_false_eq_true, upd_ne, rd_def, tyOk29, agg29, cells29, a1, rd_aggc, Nat.zero_add, List.length_cons, List.length_nil, Nat.reduceAdd, Nat.le_refl, List.drop_zero, List.take_succ_cons, List.take_zero, if_true, onB_false]
      refine call1S (by simp -implicitDefEqProofs only [List.map_cons, Nat.reduceLT, ev_tab, upd_eq, List.map_nil] <;> rfl) c1 ?_
      simp -implicitDefEqProofs only [↓ops_cons]
      refine call1S (by simp -implicitDefEqProofs only [List.map_cons, Nat.reduceLT, ev_tab, upd_eq, List.map_nil] <;> rfl) d1 ?_
      simp -implicitDefEqProofs only [↓ops_cons, ↓g_assign, ↓ops_nil, ↓w_seq, ↓w_region, Nat.reduceLT, ev_tab, upd_eq, ↓g_load, ne_eq, Nat.reduceEqDiff, not_false_eq_true, upd_ne, rd_def, tyOk29, agg29, cells29, a3, rd_aggc, Nat.zero_add, List.length_cons, List.length_nil, Nat.reduceAdd, Nat.le_refl, List.drop_zero, List.take_succ_cons, List.take_zero, if_true, onS_some]
      refine call1S (by simp -implicitDefEqProofs only [List.map_cons, Nat.reduceLT, ev_tab, upd_eq, List.map_nil] <;> rfl) f1 ?_
      simp -implicitDefEqProofs only [↓ops_cons, ↓g_alloc, zero32, Option.map_some, ↓g_store, Nat.reduceLT, ev_tab, upd_eq, ne_eq, Nat.reduceEqDiff, not_false_eq_true, upd_ne, ↓ops_nil, ↓w_seq, ↓w_region, ↓g_load, alK_some, List.all_cons, one_nil, one_int, List.all_nil, Bool.and_self, wr_def, tyOk32, cells32, hap_0, List.getElem?_cons_zero, wr_c, cells_agg, List.length_cons, List.length_nil, Nat.zero_add, Nat.reduceAdd, Nat.le_refl, one_sl, and_self, ovr_fm, ovr_fn, hset_0, List.set_cons_zero, if_true, rd_def, agg32, onS_some, rd_aggc, List.drop_zero, List.take_succ_cons, List.take_zero, true_and]
      rw [← hC]
      refine call1S (by simp -implicitDefEqProofs only [List.map_cons, Nat.reduceLT, ev_tab, upd_eq, List.map_nil] <;> rfl) g1 ?_
      simp -implicitDefEqProofs only [↓ops_cons, ↓g_assign, ↓ops_nil, ↓w_seq, ↓w_region, Nat.reduceLT, ev_tab, upd_eq, ↓g_move, ne_eq, Nat.reduceEqDiff, not_false_eq_true, upd_ne]
      refine call1S (by simp -implicitDefEqProofs only [List.map_cons, Nat.reduceLT, ev_tab, ne_eq, Nat.reduceEqDiff, not_false_eq_true, upd_ne, upd_eq, List.map_nil] <;> rfl) q1 ?_
      simp -implicitDefEqProofs only [↓ops_cons, ↓g_unOp, Nat.reduceLT, ev_tab, upd_eq, u_not, Bool.not_true, Option.map_some, ↓ops_nil, ↓w_cond, ↓w_seq, ↓w_region, ↓g_assign, ↓w_ret, ev_const, of_bool, retP_1, res_tmp, onS_some, ↓w_skip, onB_false]
      refine drawn [(0, 0), (0, 3), (1, 0)] follows (by kernel_rfl) (by kernel_rfl) ?_
      simp -implicitDefEqProofs only [↓dops_cons, ↓g_load, Nat.reduceLT, ev_tab, ne_eq, Nat.reduceEqDiff, not_false_eq_true, upd_ne, upd_eq, rd_def, tyOk32, agg32, cells32, y5, rd_aggc, Nat.zero_add, List.length_cons, List.length_nil, Nat.reduceAdd, Nat.le_refl, List.drop_zero, List.take_succ_cons, List.take_zero, if_true, tyOk29, agg29, cells29, a5, onS_some]
      refine call1S (by simp -implicitDefEqProofs only [List.map_cons, Nat.reduceLT, ev_tab, upd_eq, List.map_nil] <;> rfl) h1 ?_
      simp -implicitDefEqProofs only [↓dops_cons]
      refine call1S (by simp -implicitDefEqProofs only [List.map_cons, Nat.reduceLT, ev_tab, ne_eq, Nat.reduceEqDiff, not_false_eq_true, upd_ne, upd_eq, List.map_nil] <;> rfl) i1 ?_
      simp -implicitDefEqProofs only [↓dops_cons, ↓g_unOp, Nat.reduceLT, ev_tab, upd_eq, u_not, Bool.not_true, Option.map_some, ↓dops_p, ↓w_cond, ↓w_seq, ↓w_region, ↓ops_cons, ↓g_assign, ↓ops_nil, ↓w_ret, ev_const, of_bool, retP_1, res_tmp, onS_some, ↓w_skip, of_int, ↓g_load, ne_eq, Nat.reduceEqDiff, not_false_eq_true, upd_ne, rd_def, tyOk32, agg32, cells32, ↓g_move, onB_false]
      refine ⟨pairs_cons (same_H rfl) (pairs_cons (same_ld _ _ Z4.length 0 rfl rfl (y6.trans y5.symm)) (pairs_cons (same_H rfl) pairs_nil)), ?_⟩
      simp -implicitDefEqProofs only [y7, rd_aggc, Nat.zero_add, List.length_cons, List.length_nil, Nat.reduceAdd, Nat.le_refl, List.drop_zero, List.take_succ_cons, List.take_zero, if_true, onS_some]
      refine call1S (by simp -implicitDefEqProofs only [List.map_cons, Nat.reduceLT, ev_tab, ne_eq, Nat.reduceEqDiff, not_false_eq_true, upd_ne, upd_eq, List.map_nil] <;> rfl) m1 ?_
      simp -implicitDefEqProofs only [↓ops_cons, ↓g_assign, ↓ops_nil, ↓w_seq, ↓w_region, Nat.reduceLT, ev_tab, upd_eq, ↓g_move, ↓g_binOp, ev_const, of_int, b_lss, kn, decide_false, onS_some, yielded_tab, dstAt_s, dstAt_0, ybv_some, boolOf_b, ↓g_guard_t, ne_eq, Nat.reduceEqDiff, not_false_eq_true, upd_ne]
      refine call1S (by simp -implicitDefEqProofs only [List.map_cons, Nat.reduceLT, ev_tab, ne_eq, Nat.reduceEqDiff, not_false_eq_true, upd_ne, upd_eq, List.map_nil] <;> rfl) q2 ?_
      simp -implicitDefEqProofs only [↓ops_cons, yielded_tab, dstAt_s, dstAt_0, Nat.reduceLT, ybv_some, ne_eq, Nat.reduceEqDiff, not_false_eq_true, upd_ne, upd_eq, boolOf_b, ↓g_guard_t, ↓g_unOp, ev_tab, u_not, Bool.not_true, Option.map_some, ↓g_pick, ev_const, of_bool, pick_b, Bool.false_eq_true, if_false, ↓ops_nil, ↓w_cond, ↓w_seq, ↓w_region, ↓g_assign, ↓w_ret, retP_1, res_tmp, onS_some, ↓w_skip, of_int, ↓g_move, onB_false]
      refine call1S (by simp -implicitDefEqProofs only [List.map_cons, Nat.reduceLT, ev_tab, ne_eq, Nat.reduceEqDiff, not_false_eq_true, upd_ne, upd_eq, List.map_nil] <;> rfl) m6 ?_
      simp -implicitDefEqProofs only [↓ops_cons, ↓g_assign, ↓ops_nil, ↓w_seq, ↓w_region, Nat.reduceLT, ev_tab, upd_eq, ev_const, of_int, ↓g_move, ne_eq, Nat.reduceEqDiff, not_false_eq_true, upd_ne]
      refine call1S (by simp -implicitDefEqProofs only [List.map_cons, Nat.reduceLT, ev_tab, ne_eq, Nat.reduceEqDiff, not_false_eq_true, upd_ne, upd_eq, List.map_nil] <;> rfl) hd ?_
      simp -implicitDefEqProofs only [↓ops_cons, ↓g_assign, ↓ops_nil, ↓w_seq, ↓w_region, Nat.reduceLT, ev_tab, upd_eq, ↓g_move, ↓g_binOp, ev_const, of_int, b_lss, kl, decide_false, ↓w_cond, ↓w_ret, of_bool, retP_1, res_tmp, onS_some, ↓w_skip, ne_eq, Nat.reduceEqDiff, not_false_eq_true, upd_ne, b_neq, decide_true, Bool.not_true, ↓g_load, rd_def, tyOk29, agg29, cells29, a9, rd_aggc, Nat.zero_add, List.length_cons, List.length_nil, Nat.reduceAdd, Nat.le_refl, List.drop_zero, List.take_succ_cons, List.take_zero, if_true, onB_false]
      refine call1S (by simp -implicitDefEqProofs only [List.map_cons, Nat.reduceLT, ev_tab, upd_eq, List.map_nil] <;> rfl) o1 ?_
      simp -implicitDefEqProofs only [↓ops_cons]
      refine call1S (by simp -implicitDefEqProofs only [List.map_cons, Nat.reduceLT, ev_tab, upd_eq, List.map_nil] <;> rfl) v1 ?_
      simp -implicitDefEqProofs only [↓ops_cons, ↓g_assign, ↓ops_nil, ↓w_seq, ↓w_region, Nat.reduceLT, ev_tab, upd_eq, ↓g_move, ne_eq, Nat.reduceEqDiff, not_false_eq_true, upd_ne]
      refine call1S (by simp -implicitDefEqProofs only [List.map_cons, Nat.reduceLT, ev_tab, ne_eq, Nat.reduceEqDiff, not_false_eq_true, upd_ne, upd_eq, List.map_nil] <;> rfl) q3 ?_
      simp -implicitDefEqProofs only [↓ops_cons, ↓g_unOp, Nat.reduceLT, ev_tab, upd_eq, u_not, Bool.not_true, Option.map_some, ↓ops_nil, ↓w_cond, ↓w_seq, ↓w_region, ↓g_assign, ↓w_ret, ev_const, of_bool, retP_1, res_tmp, onS_some, ↓w_skip, of_int, ↓g_move, ne_eq, Nat.reduceEqDiff, not_false_eq_true, upd_ne, onB_false]
      refine call1S (by simp -implicitDefEqProofs only [List.map_cons, Nat.reduceLT, ev_tab, ne_eq, Nat.reduceEqDiff, not_false_eq_true, upd_ne, upd_eq, List.map_nil] <;> rfl) hd2 ?_
      simp -implicitDefEqProofs only [↓ops_cons, ↓g_assign, ↓ops_nil, ↓w_seq, ↓w_region, Nat.reduceLT, ev_tab, upd_eq, ↓g_move, ↓g_binOp, ev_const, of_int, b_lss, kl, decide_false, ↓w_cond, ↓w_ret, of_bool, retP_1, res_tmp, onS_some, ↓w_skip, ne_eq, Nat.reduceEqDiff, not_false_eq_true, upd_ne, b_neq, decide_true, Bool.not_true, onB_false]
  obtain ⟨v, H', h1, rfl⟩ := key
  exact ⟨H', h1⟩
end Go.Proofs.Ytcjjcpdfnndenaa.Sim

