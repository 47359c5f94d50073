/- SaidAgain: the law returns true. -/
import Derived.Test.YtcjjcpdfnndenaaFFlight4
namespace Go.Proofs.Ytcjjcpdfnndenaa.Sim
open Go
set_option maxRecDepth 100000
set_option maxHeartbeats 40000000
set_option linter.unusedSimpArgs false
set_option linter.unusedVariables false
theorem Own.lt {H : AHeap} {y : AV} {l : List Int} (h : Own H y l) {r o n k : Nat} (e : y = .sl r o n k) : r < H.length := by
  rcases h with ⟨rfl, _⟩ | ⟨r', rfl, h⟩
  · cases e
  · injection e with e1
    subst e1
    exact at_lt h
theorem lawFnExactSaidAgain (H : AHeap) (x : AV) (s : List Int) (hs : s.length ≤ 9223372036854775807) (hx : IsL H x .i64 s) (y : AV) (g : List Int) (hg : g.length ≤ 9223372036854775807) (hy : IsL H y .i64 g) (t : Int) : ∃ H', Sound Try.prog 8 [.agg [x, y, .sc (.int .i64 t)]] H (.sc (.bool true)) H' := by
  have key : ∃ v H', Sound Try.prog 8 [.agg [x, y, .sc (.int .i64 t)]] H v H' ∧ v = .sc (.bool true) := by
    refine Sound.runP (args := [.agg [x, y, .sc (.int .i64 t)]]) 112 [.tmp 2] Try.func8 rfl rfl rfl rfl (by simp) (fun v Z => v = .sc (.bool true)) ?_
    have x1 := hx.one
    have y1 := hy.one
    obtain ⟨A, hA⟩ : ∃ A : Reg, A = ⟨[x, y, .sc (.int .i64 t)], true, true⟩ := ⟨_, rfl⟩
    have e0 := Ext.more H [A]
    have a0 : (H ++ [A])[H.length]? = some ⟨[x, y, .sc (.int .i64 t)], true, true⟩ := by rw [← hA]; exact hap_0 H [A]
    obtain ⟨n, Z1, n1, n2, n3⟩ := szFlightS t (e0.isL hx) (e0.isL hy) hs hg 1048576 (by omega)
    have a1 := n2.at a0
    have e1 := e0.trans n2
    by_cases hn : n < 0
    · unfold flt at n1
      simp -implicitDefEqProofs only [↓w_seq, ↓w_region, ↓ops_cons, ↓g_box, Nat.reduceLT, ev_tab, par0, cells_agg, ↓g_assign, ↓ops_nil, ev_const, of_bool, of_int, ↓g_load, ne_eq, Nat.reduceEqDiff, not_false_eq_true, upd_ne, upd_eq, ↓g_move, alK_some, List.all_cons, x1, y1, one_int, List.all_nil, Bool.and_self, rd_def, tyOk29, agg29, cells29, hap_0, List.getElem?_cons_zero, rd_aggc, Nat.zero_add, List.length_cons, List.length_nil, Nat.reduceAdd, Nat.le_refl, List.drop_zero, List.take_succ_cons, List.take_zero, if_true, onS_some, true_and]
      rw [← hA]
      refine call1S (by simp -implicitDefEqProofs only [List.map_cons, Nat.reduceLT, ev_tab, ne_eq, Nat.reduceEqDiff, not_false_eq_true, upd_ne, upd_eq, List.map_nil] <;> rfl) n1 ?_
      simp -implicitDefEqProofs only [↓ops_cons, ↓g_assign, ↓ops_nil, ↓w_seq, ↓w_region, Nat.reduceLT, ev_tab, upd_eq, ↓g_move, ↓g_binOp, ev_const, of_int, b_lss, hn, decide_true, ↓w_cond, ↓w_ret, of_bool, retP_1, res_tmp, onS_some, ↓w_skip, ↓g_load, ne_eq, Nat.reduceEqDiff, not_false_eq_true, upd_ne, rd_def, tyOk29, agg29, cells29, onB_true]
    · obtain ⟨hs2, hg2⟩ := n3 hn
      have hll := leftL_len s g
      obtain ⟨t', M, hM⟩ : ∃ (t' : Int) (M : List Int), (Stop s g t ∧ t' = t ∧ M = []) ∨ (¬ Stop s g t ∧ t' = t + 1 ∧ M = leftL s g) := by
        by_cases h : Stop s g t
        · exact ⟨t, [], .inl ⟨h, rfl, rfl⟩⟩
        · exact ⟨t + 1, _, .inr ⟨h, rfl, rfl⟩⟩
      have hM2 : M.length ≤ 1000000000 := by
        rcases hM with ⟨_, _, rfl⟩ | ⟨_, _, rfl⟩
        · simp
        · omega
      -- the reference
      obtain ⟨p2, q2, Z2, c1, c2, c3, c4, c5, c6⟩ := toFlightS t (e1.isL hx) (e1.isL hy) hs2 hg2
      obtain ⟨p3, q3, v3, Z3, d1, d2, d3, d4, d5, d6, d7, d8⟩ := saidS t t' M hM (IsL.mk c5) (IsL.mk c6) hs2 hg2
      have hI := fun (G : AHeap) (p q : Nat) (h : G[p]? = some ⟨ints .i64 s, true, true⟩) (h' : G[q]? = some ⟨ints .i64 g, true, true⟩) => saidI t t' M hM (IsL.mk h) (IsL.mk h') hs2 hg2
      clear hM
      have v3o := d7.isL.one
      obtain ⟨W, hW⟩ : ∃ C : Reg, C = ⟨[.sl p3 0 s.length 1, .sl q3 0 g.length 1, .sc (.int .i64 t')], true, true⟩ := ⟨_, rfl⟩
      have x3 := Ext.more Z3 [W]
      have w3 : (Z3 ++ [W])[Z3.length]? = some ⟨[.sl p3 0 s.length 1, .sl q3 0 g.length 1, .sc (.int .i64 t')], true, true⟩ := by rw [← hW]; exact at_end Z3 W
      have a3 := x3.at (d2.at (c2.at a1))
      have e3 := ((e1.trans c2).trans d2).trans x3
      -- what the program is given
      obtain ⟨p4, q4, Z4, f1, f2, f3, f4, f5, f6⟩ := toFlightS t (e3.isL hx) (e3.isL hy) hs2 hg2
      obtain ⟨F, hF⟩ : ∃ C : Reg, C = ⟨[.sl p4 0 s.length 1, .sl q4 0 g.length 1, .sc (.int .i64 t)], true, true⟩ := ⟨_, rfl⟩
      have x4 := Ext.more Z4 [F]
      have y4 : (Z4 ++ [F])[Z4.length]? = some ⟨[.sl p4 0 s.length 1, .sl q4 0 g.length 1, .sc (.int .i64 t)], true, true⟩ := by rw [← hF]; exact at_end Z4 F
      obtain ⟨p5, q5, v5, Z5, g1, g2, g3, g4, g5, g6, g7, g8⟩ := hI (Z4 ++ [F]) p4 q4 (x4.at f5) (x4.at f6)
      have v5o := g7.isL.one
      obtain ⟨K, hK⟩ : ∃ C : Reg, C = ⟨[.sl p5 0 s.length 1, .sl q5 0 g.length 1, .sc (.int .i64 t')], true, true⟩ := ⟨_, rfl⟩
      have x5 := Ext.more Z5 [K]
      have k5 : (Z5 ++ [K])[Z5.length]? = some ⟨[.sl p5 0 s.length 1, .sl q5 0 g.length 1, .sc (.int .i64 t')], true, true⟩ := by rw [← hK]; exact at_end Z5 K
      have o5 := ((f2.trans x4).trans g2).trans x5
      have e5 := e3.trans o5
      obtain ⟨Z6, h1, h2⟩ := eqFlightS t' (IsL.mk (x5.at g5)) (IsL.mk (x5.at g6)) (IsL.mk (o5.at (x3.at d5))) (IsL.mk (o5.at (x3.at d6))) hs2 hg2
      have E1 := eqS (g7.ext (x5.trans h2)).isL (d7.ext ((x3.trans o5).trans h2)).isL (by omega) (by omega)
      have e6 := e5.trans h2
      obtain ⟨p7, q7, Z7, i1, i2, i3, i4, i5, i6⟩ := toFlightS t (e6.isL hx) (e6.isL hy) hs2 hg2
      have j6 := (((x4.trans g2).trans x5).trans h2).trans i2
      obtain ⟨Z8, j1, j2⟩ := eqFlightS t (IsL.mk (j6.at f5)) (IsL.mk (j6.at f6)) (IsL.mk i5) (IsL.mk i6) hs2 hg2
      have r8 := (j6.trans j2).at f5
      have s8 := (j6.trans j2).at f6
      -- what is there before the marks
      have m8 := (h2.trans i2).trans j2
      have o8 := o5.trans m8
      have a8 := o8.at a3
      have w8 := o8.at w3
      have y7 := ((((g2.trans x5).trans h2)).trans i2).at y4
      have y6 := (((g2.trans x5).trans h2)).at y4
      have y8 := j2.at y7
      have k8 := m8.at k5
      have d58 := o8.at (x3.at d5)
      have d68 := o8.at (x3.at d6)
      have d78 := d7.ext (x3.trans o8)
      have g58 := (x5.trans m8).at g5
      have g68 := (x5.trans m8).at g6
      have g78 := g7.ext (x5.trans m8)
      have e8 := e3.trans o8
      have z1 : H.length < Z1.length := at_lt a1
      have z2 : Z2.length ≤ p3 := d3
      have z2' : Z1.length ≤ Z2.length := c2.1
      have z3 : q3 < Z3.length := at_lt d6
      have z4 : Z3.length + 1 ≤ p4 := by rw [List.length_append] at f3; exact f3
      have z5 : q4 < Z4.length := at_lt f6
      have z6 : Z4.length + 1 ≤ p5 := by rw [List.length_append] at g3; exact g3
      have z7 : q5 < Z5.length := at_lt g6
      have z8 : Z5.length < Z8.length := at_lt k8
      have z9 : ∀ r o n k, v3 = .sl r o n k → r < Z3.length := fun r o n k e => d7.lt e
      have z10 : ∀ r o n k, v5 = .sl r o n k → q5 < r ∧ r < Z5.length := fun r o n k e => ⟨g8 r o n k e, g7.lt e⟩
      -- marks in what was given
      obtain ⟨Z9, l1, l2, l3, l4, l5⟩ := markFlightS t (Own.sl r8) (Own.sl s8) hs2 hg2 (fun r o n k e => by
        injection e with e1
        subst e1
        exact .sl (by omega))
      have keep9 : ∀ i, i < Z8.length → i ≠ p4 → i ≠ q4 → Z9[i]? = Z8[i]? := fun i hi h1 h2 => l5 i hi (.sl h1) (.sl h2)
      have w9 := (keep9 Z3.length (by omega) (by omega) (by omega)).trans w8
      have k9 := (keep9 Z5.length (by omega) (by omega) (by omega)).trans k8
      have d59 := (keep9 p3 (by omega) (by omega) (by omega)).trans d58
      have d69 := (keep9 q3 (by omega) (by omega) (by omega)).trans d68
      have d79 : Own Z9 v3 M := d78.keep fun r o n k e => keep9 r (by have := z9 r o n k e; omega) (by have := z9 r o n k e; omega) (by have := z9 r o n k e; omega)
      have g59 := (keep9 p5 (by omega) (by omega) (by omega)).trans g58
      have g69 := (keep9 q5 (by omega) (by omega) (by omega)).trans g68
      have g79 : Own Z9 v5 M := g78.keep fun r o n k e => keep9 r (by have := z10 r o n k e; omega) (by have := z10 r o n k e; omega) (by have := z10 r o n k e; omega)
      obtain ⟨Z10, m1, m2⟩ := eqFlightS t' (IsL.mk g59) (IsL.mk g69) (IsL.mk d59) (IsL.mk d69) hs2 hg2
      have E2 := eqS (g79.ext m2).isL (d79.ext m2).isL (by omega) (by omega)
      have z11 := m2.1
      -- marks in what was answered
      obtain ⟨Z11, o1, o2, o3, o4, o6⟩ := markFlightS t' (Own.sl (m2.at g59)) (Own.sl (m2.at g69)) hs2 hg2 (fun r o n k e => by
        injection e with e1
        subst e1
        exact .sl (by omega))
      have keep11 : ∀ i, i < Z8.length → i ≠ p4 → i ≠ q4 → i ≠ p5 → i ≠ q5 → Z11[i]? = Z8[i]? := fun i hi h1 h2 h3 h4 => ((o6 i (by omega) (.sl h3) (.sl h4)).trans (m2.2 i (by omega))).trans (keep9 i hi h1 h2)
      have g711 : Own Z11 v5 M := g78.keep fun r o n k e => keep11 r (by have := z10 r o n k e; omega) (by have := z10 r o n k e; omega) (by have := z10 r o n k e; omega) (by have := z10 r o n k e; omega) (by have := z10 r o n k e; omega)
      obtain ⟨Z12, q1, q21, q31, q41⟩ := markOwn (1 + s.length + g.length) (by omega) g711 hM2
      have ap5 : ∀ i, i < p5 ∨ i = p5 ∨ i = q5 ∨ Z5.length ≤ i → Apart v5 i := fun i hi r o n k e => by
        have := z10 r o n k e
        omega
      have keep12 : ∀ i, i < Z8.length → i < p4 ∨ (q4 < i ∧ i < p5) ∨ Z5.length ≤ i → Z12[i]? = Z8[i]? := fun i hi h => (q41 i (ap5 i (by omega))).trans (keep11 i hi (by omega) (by omega) (by omega) (by omega))
      have a12 := (keep12 H.length (by omega) (by omega)).trans a8
      have w12 := (keep12 Z3.length (by omega) (by omega)).trans w8
      have k12 := (keep12 Z5.length (by omega) (by omega)).trans k8
      have k11 := (keep11 Z5.length (by omega) (by omega) (by omega) (by omega) (by omega)).trans k8
      have d512 := (keep12 p3 (by omega) (by omega)).trans d58
      have d612 := (keep12 q3 (by omega) (by omega)).trans d68
      have d712 : Own Z12 v3 M := d78.keep fun r o n k e => keep12 r (by have := z9 r o n k e; omega) (by have := z9 r o n k e; omega)
      have g512 : Own Z12 (.sl p5 0 s.length 1) (marked 1 s.length) := o2.keep fun r o n k e => q41 r (ap5 r (by injection e with e1; omega))
      have g612 : Own Z12 (.sl q5 0 g.length 1) (marked (1 + s.length) g.length) := o3.keep fun r o n k e => q41 r (ap5 r (by injection e with e1; omega))
      have e12 : Ext H Z12 := ⟨by have := e8.1; omega, fun i hi => (keep12 i (by omega) (by omega)).trans (e8.2 i hi)⟩
      obtain ⟨Z13, r1, r2⟩ := heldFlightS t' g512.isL g612.isL hs2 hg2
      have hd1 := heldSk (x := v5) (n := M.length) (1 + s.length + g.length) (by omega) (q21.ext r2).isL hM2
      have e13 := e12.trans r2
      -- once more
      obtain ⟨p14, q14, Z14, s1, s2, s3, s4, s5, s6⟩ := toFlightS t (e13.isL hx) (e13.isL hy) hs2 hg2
      obtain ⟨p15, q15, v15, Z15, t1, t2, t3, t4, t5, t6, t7, t8⟩ := hI Z14 p14 q14 s5 s6
      have v15o := t7.isL.one
      obtain ⟨J, hJ⟩ : ∃ C : Reg, C = ⟨[.sl p15 0 s.length 1, .sl q15 0 g.length 1, .sc (.int .i64 t')], true, true⟩ := ⟨_, rfl⟩
      have x15 := Ext.more Z15 [J]
      have l15 := ((r2.trans s2).trans t2).trans x15
      have w15 := l15.at w12
      have k15 := l15.at k12
      have j15 : (Z15 ++ [J])[Z15.length]? = some ⟨[.sl p15 0 s.length 1, .sl q15 0 g.length 1, .sc (.int .i64 t')], true, true⟩ := by rw [← hJ]; exact at_end Z15 J
      obtain ⟨Z16, u1, u2⟩ := eqFlightS t' (IsL.mk (x15.at t5)) (IsL.mk (x15.at t6)) (IsL.mk (l15.at d512)) (IsL.mk (l15.at d612)) hs2 hg2
      have E3 := eqS (t7.ext (x15.trans u2)).isL (d712.ext (l15.trans u2)).isL (by omega) (by omega)
      have k16 := u2.at k15
      obtain ⟨Z17, b1, b2⟩ := heldFlightS t' (g512.ext (l15.trans u2)).isL (g612.ext (l15.trans u2)).isL hs2 hg2
      have hd2 := heldSk (x := v5) (n := M.length) (1 + s.length + g.length) (by omega) (((q21.ext l15).ext u2).ext b2).isL hM2
      simp only [decide_true] at E1 E2 E3
      have kn : ¬ (1 : Int) + s.length + g.length < 0 := by omega
      have km : ¬ (1 : Int) + s.length + g.length + M.length < 0 := by omega
      unfold flt at n1 c1 d1 f1 g1 h1 i1 j1 l1 m1 o1 r1 s1 t1 u1 b1
      simp -implicitDefEqProofs only [↓w_seq, ↓w_region, ↓ops_cons, ↓g_box, Nat.reduceLT, ev_tab, par0, cells_agg, ↓g_assign, ↓ops_nil, ev_const, of_bool, of_int, ↓g_load, ne_eq, Nat.reduceEqDiff, not_false_eq_true, upd_ne, upd_eq, ↓g_move, alK_some, List.all_cons, x1, y1, one_int, List.all_nil, Bool.and_self, rd_def, tyOk29, agg29, cells29, hap_0, List.getElem?_cons_zero, rd_aggc, Nat.zero_add, List.length_cons, List.length_nil, Nat.reduceAdd, Nat.le_refl, List.drop_zero, List.take_succ_cons, List.take_zero, if_true, onS_some, true_and]
      rw [← hA]
      refine call1S (by simp -implicitDefEqProofs only [List.map_cons, Nat.reduceLT, ev_tab, ne_eq, Nat.reduceEqDiff, not_false_eq_true, upd_ne, upd_eq, List.map_nil] <;> rfl) n1 ?_
      simp -implicitDefEqProofs only [↓ops_cons, ↓g_assign, ↓ops_nil, ↓w_seq, ↓w_region, Nat.reduceLT, ev_tab, upd_eq, ↓g_move, ↓g_binOp, ev_const, of_int, b_lss, hn, decide_false, ↓w_cond, ↓w_ret, of_bool, retP_1, res_tmp, onS_some, ↓w_skip, ↓g_load, ne_eq, Nat.reduceEqDiff, not_false_eq_true, upd_ne, rd_def, tyOk29, agg29, cells29, a1, rd_aggc, Nat.zero_add, List.length_cons, List.length_nil, Nat.reduceAdd, Nat.le_refl, List.drop_zero, List.take_succ_cons, List.take_zero, if_true, onB_false]
      refine call1S (by simp -implicitDefEqProofs only [List.map_cons, Nat.reduceLT, ev_tab, upd_eq, List.map_nil] <;> rfl) c1 ?_
      simp -implicitDefEqProofs only [↓ops_cons]
      refine call1S (by simp -implicitDefEqProofs only [List.map_cons, Nat.reduceLT, ev_tab, upd_eq, List.map_nil] <;> rfl) d1 ?_
      simp -implicitDefEqProofs only [↓ops_cons, ↓g_move, ↓g_extract, Nat.reduceLT, ev_tab, upd_eq, ext_0, ne_eq, Nat.reduceEqDiff, not_false_eq_true, upd_ne, ext_1, ↓g_alloc, zero32, Option.map_some, ↓g_store, ↓g_assign, ↓ops_nil, ↓w_seq, ↓w_region, ↓g_load, rd_def, tyOk29, agg29, cells29, alK_some, List.all_cons, one_nil, one_int, List.all_nil, Bool.and_self, wr_def, tyOk32, cells32, hap_0, List.getElem?_cons_zero, wr_c, Nat.zero_add, List.length_cons, List.length_nil, Nat.reduceAdd, Nat.le_refl, true_and, hset_0, List.set_cons_zero, onS_ite, onS_some, cells_agg, one_sl, and_self, ovr_fm, ovr_fn]
      rw [← hW]
      simp -implicitDefEqProofs only [a3, rd_aggc, Nat.zero_add, List.length_cons, List.length_nil, Nat.reduceAdd, Nat.le_refl, List.drop_zero, List.take_succ_cons, List.take_zero, if_true, onS_some]
      refine call1S (by simp -implicitDefEqProofs only [List.map_cons, Nat.reduceLT, ev_tab, upd_eq, List.map_nil] <;> rfl) f1 ?_
      simp -implicitDefEqProofs only [↓ops_cons, ↓g_alloc, zero32, Option.map_some, ↓g_store, Nat.reduceLT, ev_tab, upd_eq, ne_eq, Nat.reduceEqDiff, not_false_eq_true, upd_ne, ↓ops_nil, ↓w_seq, ↓w_region, ↓g_load, alK_some, List.all_cons, one_nil, one_int, List.all_nil, Bool.and_self, wr_def, tyOk32, cells32, hap_0, List.getElem?_cons_zero, wr_c, cells_agg, List.length_cons, List.length_nil, Nat.zero_add, Nat.reduceAdd, Nat.le_refl, one_sl, and_self, ovr_fm, ovr_fn, hset_0, List.set_cons_zero, if_true, rd_def, agg32, onS_some, rd_aggc, List.drop_zero, List.take_succ_cons, List.take_zero, true_and]
      rw [← hF]
      refine call1S (by simp -implicitDefEqProofs only [List.map_cons, Nat.reduceLT, ev_tab, upd_eq, List.map_nil] <;> rfl) g1 ?_
      simp -implicitDefEqProofs only [↓ops_cons, ↓g_move, ↓g_extract, Nat.reduceLT, ev_tab, upd_eq, ext_0, ne_eq, Nat.reduceEqDiff, not_false_eq_true, upd_ne, ext_1, ↓g_alloc, zero32, Option.map_some, ↓g_store, ↓g_assign, ↓ops_nil, ↓w_seq, ↓w_region, ↓g_load, rd_def, tyOk32, agg32, cells32, alK_some, List.all_cons, one_nil, one_int, List.all_nil, Bool.and_self, wr_def, hap_0, List.getElem?_cons_zero, wr_c, Nat.zero_add, List.length_cons, List.length_nil, Nat.reduceAdd, Nat.le_refl, true_and, hset_0, List.set_cons_zero, onS_ite, onS_some, cells_agg, one_sl, and_self, ovr_fm, ovr_fn, rd_aggc, List.drop_zero, List.take_succ_cons, List.take_zero, if_true]
      rw [← hK]
      simp -implicitDefEqProofs only [o5.at w3, rd_aggc, Nat.zero_add, List.length_cons, List.length_nil, Nat.reduceAdd, Nat.le_refl, List.drop_zero, List.take_succ_cons, List.take_zero, if_true, onS_some]
      refine call1S (by simp -implicitDefEqProofs only [List.map_cons, Nat.reduceLT, ev_tab, ne_eq, Nat.reduceEqDiff, not_false_eq_true, upd_ne, upd_eq, List.map_nil] <;> rfl) h1 ?_
      simp -implicitDefEqProofs only [↓ops_cons, ↓g_unOp, Nat.reduceLT, ev_tab, upd_eq, u_not, Bool.not_true, Option.map_some, ↓g_move, onS_some, yielded_tab, dstAt_s, dstAt_0, ybv_some, boolOf_b, ↓g_guard_t, ne_eq, Nat.reduceEqDiff, not_false_eq_true, upd_ne]
      refine call1S (by simp -implicitDefEqProofs only [List.map_cons, Nat.reduceLT, ev_tab, ne_eq, Nat.reduceEqDiff, not_false_eq_true, upd_ne, upd_eq, List.map_nil] <;> rfl) E1 ?_
      simp -implicitDefEqProofs only [↓ops_cons, yielded_tab, dstAt_s, dstAt_0, Nat.reduceLT, ybv_some, ne_eq, Nat.reduceEqDiff, not_false_eq_true, upd_ne, upd_eq, boolOf_b, ↓g_guard_t, ↓g_unOp, ev_tab, u_not, Bool.not_true, Option.map_some, ↓g_pick, ev_const, of_bool, pick_b, Bool.false_eq_true, if_false, ↓ops_nil, ↓w_cond, ↓w_seq, ↓w_region, ↓g_assign, ↓w_ret, retP_1, res_tmp, onS_some, ↓w_skip, onB_false]
      refine drawn [(0, 0), (0, 3), (1, 0)] follows (by kernel_rfl) (by kernel_rfl) ?_
      simp -implicitDefEqProofs only [↓dops_cons, ↓g_load, Nat.reduceLT, ev_tab, ne_eq, Nat.reduceEqDiff, not_false_eq_true, upd_ne, upd_eq, rd_def, tyOk32, agg32, cells32, y6, rd_aggc, Nat.zero_add, List.length_cons, List.length_nil, Nat.reduceAdd, Nat.le_refl, List.drop_zero, List.take_succ_cons, List.take_zero, if_true, tyOk29, agg29, cells29, (o5.trans h2).at a3, onS_some]
      refine call1S (by simp -implicitDefEqProofs only [List.map_cons, Nat.reduceLT, ev_tab, upd_eq, List.map_nil] <;> rfl) i1 ?_
      simp -implicitDefEqProofs only [↓dops_cons]
      refine call1S (by simp -implicitDefEqProofs only [List.map_cons, Nat.reduceLT, ev_tab, ne_eq, Nat.reduceEqDiff, not_false_eq_true, upd_ne, upd_eq, List.map_nil] <;> rfl) j1 ?_
      simp -implicitDefEqProofs only [↓dops_cons, ↓g_unOp, Nat.reduceLT, ev_tab, upd_eq, u_not, Bool.not_true, Option.map_some, ↓dops_p, ↓w_cond, ↓w_seq, ↓w_region, ↓ops_cons, ↓g_assign, ↓ops_nil, ↓w_ret, ev_const, of_bool, retP_1, res_tmp, onS_some, ↓w_skip, of_int, ↓g_load, ne_eq, Nat.reduceEqDiff, not_false_eq_true, upd_ne, rd_def, tyOk32, agg32, cells32, ↓g_move, onB_false]
      refine ⟨pairs_cons (same_H rfl) (pairs_cons (same_ld _ _ Z4.length 0 rfl rfl (y7.trans y6.symm)) (pairs_cons (same_H rfl) pairs_nil)), ?_⟩
      simp -implicitDefEqProofs only [y8, rd_aggc, Nat.zero_add, List.length_cons, List.length_nil, Nat.reduceAdd, Nat.le_refl, List.drop_zero, List.take_succ_cons, List.take_zero, if_true, onS_some]
      refine call1S (by simp -implicitDefEqProofs only [List.map_cons, Nat.reduceLT, ev_tab, ne_eq, Nat.reduceEqDiff, not_false_eq_true, upd_ne, upd_eq, List.map_nil] <;> rfl) l1 ?_
      simp -implicitDefEqProofs only [↓ops_cons, ↓g_assign, ↓ops_nil, ↓w_seq, ↓w_region, Nat.reduceLT, ev_tab, upd_eq, ↓g_move, ↓g_binOp, ev_const, of_int, b_lss, kn, decide_false, onS_some, yielded_tab, dstAt_s, dstAt_0, ybv_some, boolOf_b, ↓g_guard_t, ↓g_load, ne_eq, Nat.reduceEqDiff, not_false_eq_true, upd_ne, rd_def, tyOk32, agg32, cells32, k9, rd_aggc, Nat.zero_add, List.length_cons, List.length_nil, Nat.reduceAdd, Nat.le_refl, List.drop_zero, List.take_succ_cons, List.take_zero, if_true, w9]
      refine call1S (by simp -implicitDefEqProofs only [List.map_cons, Nat.reduceLT, ev_tab, ne_eq, Nat.reduceEqDiff, not_false_eq_true, upd_ne, upd_eq, List.map_nil] <;> rfl) m1 ?_
      simp -implicitDefEqProofs only [↓ops_cons, yielded_tab, dstAt_s, dstAt_0, Nat.reduceLT, ybv_some, ne_eq, Nat.reduceEqDiff, not_false_eq_true, upd_ne, upd_eq, boolOf_b, ↓g_guard_t, ↓g_unOp, ev_tab, u_not, Bool.not_true, Option.map_some, ↓g_pick, ev_const, of_bool, pick_b, reduceCtorEq, if_false, ↓g_move, onS_some]
      refine call1S (by simp -implicitDefEqProofs only [List.map_cons, Nat.reduceLT, ev_tab, ne_eq, Nat.reduceEqDiff, not_false_eq_true, upd_ne, upd_eq, List.map_nil] <;> rfl) E2 ?_
      simp -implicitDefEqProofs only [↓ops_cons, yielded_tab, dstAt_s, dstAt_0, Nat.reduceLT, ybv_some, ne_eq, Nat.reduceEqDiff, not_false_eq_true, upd_ne, upd_eq, boolOf_b, ↓g_guard_t, ↓g_unOp, ev_tab, u_not, Bool.not_true, Option.map_some, ↓g_pick, ev_const, of_bool, pick_b, Bool.false_eq_true, if_false, ↓ops_nil, ↓w_cond, ↓w_seq, ↓w_region, ↓g_assign, ↓w_ret, retP_1, res_tmp, onS_some, ↓w_skip, of_int, ↓g_load, rd_def, tyOk32, agg32, cells32, m2.at k9, rd_aggc, Nat.zero_add, List.length_cons, List.length_nil, Nat.reduceAdd, Nat.le_refl, List.drop_zero, List.take_succ_cons, List.take_zero, if_true, ↓g_move, onB_false]
      refine call1S (by simp -implicitDefEqProofs only [List.map_cons, Nat.reduceLT, ev_tab, ne_eq, Nat.reduceEqDiff, not_false_eq_true, upd_ne, upd_eq, List.map_nil] <;> rfl) o1 ?_
      simp -implicitDefEqProofs only [↓ops_cons, ↓g_assign, ↓ops_nil, ↓w_seq, ↓w_region, Nat.reduceLT, ev_tab, upd_eq, ↓g_move, ne_eq, Nat.reduceEqDiff, not_false_eq_true, upd_ne]
      refine call1S (by simp -implicitDefEqProofs only [List.map_cons, Nat.reduceLT, ev_tab, ne_eq, Nat.reduceEqDiff, not_false_eq_true, upd_ne, upd_eq, List.map_nil] <;> rfl) q1 ?_
      simp -implicitDefEqProofs only [↓ops_cons, ↓g_assign, ↓ops_nil, ↓w_seq, ↓w_region, Nat.reduceLT, ev_tab, upd_eq, ev_const, of_int, ↓g_load, ne_eq, Nat.reduceEqDiff, not_false_eq_true, upd_ne, rd_def, tyOk32, agg32, cells32, k12, rd_aggc, Nat.zero_add, List.length_cons, List.length_nil, Nat.reduceAdd, Nat.le_refl, List.drop_zero, List.take_succ_cons, List.take_zero, if_true, ↓g_move, onS_some]
      refine call1S (by simp -implicitDefEqProofs only [List.map_cons, Nat.reduceLT, ev_tab, ne_eq, Nat.reduceEqDiff, not_false_eq_true, upd_ne, upd_eq, List.map_nil] <;> rfl) r1 ?_
      simp -implicitDefEqProofs only [↓ops_cons, ↓g_assign, ↓ops_nil, ↓w_seq, ↓w_region, Nat.reduceLT, ev_tab, upd_eq, ↓g_move, ↓g_binOp, ev_const, of_int, b_lss, kn, decide_false, ↓w_cond, ↓w_ret, of_bool, retP_1, res_tmp, onS_some, ↓w_skip, ne_eq, Nat.reduceEqDiff, not_false_eq_true, upd_ne, onB_false]
      refine call1S (by simp -implicitDefEqProofs only [List.map_cons, Nat.reduceLT, ev_tab, ne_eq, Nat.reduceEqDiff, not_false_eq_true, upd_ne, upd_eq, List.map_nil] <;> rfl) hd1 ?_
      simp -implicitDefEqProofs only [↓ops_cons, ↓g_assign, ↓ops_nil, ↓w_seq, ↓w_region, Nat.reduceLT, ev_tab, upd_eq, ↓g_move, ↓g_binOp, ev_const, of_int, b_lss, km, decide_false, ↓w_cond, ↓w_ret, of_bool, retP_1, res_tmp, onS_some, ↓w_skip, ne_eq, Nat.reduceEqDiff, not_false_eq_true, upd_ne, b_neq, decide_true, Bool.not_true, ↓g_load, rd_def, tyOk29, agg29, cells29, r2.at a12, rd_aggc, Nat.zero_add, List.length_cons, List.length_nil, Nat.reduceAdd, Nat.le_refl, List.drop_zero, List.take_succ_cons, List.take_zero, if_true, onB_false]
      refine call1S (by simp -implicitDefEqProofs only [List.map_cons, Nat.reduceLT, ev_tab, upd_eq, List.map_nil] <;> rfl) s1 ?_
      simp -implicitDefEqProofs only [↓ops_cons]
      refine call1S (by simp -implicitDefEqProofs only [List.map_cons, Nat.reduceLT, ev_tab, upd_eq, List.map_nil] <;> rfl) t1 ?_
      simp -implicitDefEqProofs only [↓ops_cons, ↓g_move, ↓g_extract, Nat.reduceLT, ev_tab, upd_eq, ext_0, ne_eq, Nat.reduceEqDiff, not_false_eq_true, upd_ne, ext_1, ↓g_alloc, zero32, Option.map_some, ↓g_store, ↓g_assign, ↓ops_nil, ↓w_seq, ↓w_region, ↓g_load, rd_def, tyOk32, agg32, cells32, alK_some, List.all_cons, one_nil, one_int, List.all_nil, Bool.and_self, wr_def, hap_0, List.getElem?_cons_zero, wr_c, Nat.zero_add, List.length_cons, List.length_nil, Nat.reduceAdd, Nat.le_refl, true_and, hset_0, List.set_cons_zero, onS_ite, onS_some, cells_agg, one_sl, and_self, ovr_fm, ovr_fn, rd_aggc, List.drop_zero, List.take_succ_cons, List.take_zero, if_true]
      rw [← hJ]
      simp -implicitDefEqProofs only [w15, rd_aggc, Nat.zero_add, List.length_cons, List.length_nil, Nat.reduceAdd, Nat.le_refl, List.drop_zero, List.take_succ_cons, List.take_zero, if_true, onS_some]
      refine call1S (by simp -implicitDefEqProofs only [List.map_cons, Nat.reduceLT, ev_tab, ne_eq, Nat.reduceEqDiff, not_false_eq_true, upd_ne, upd_eq, List.map_nil] <;> rfl) u1 ?_
      simp -implicitDefEqProofs only [↓ops_cons, ↓g_unOp, Nat.reduceLT, ev_tab, upd_eq, u_not, Bool.not_true, Option.map_some, ↓g_move, onS_some, yielded_tab, dstAt_s, dstAt_0, ybv_some, boolOf_b, ↓g_guard_t, ne_eq, Nat.reduceEqDiff, not_false_eq_true, upd_ne]
      refine call1S (by simp -implicitDefEqProofs only [List.map_cons, Nat.reduceLT, ev_tab, ne_eq, Nat.reduceEqDiff, not_false_eq_true, upd_ne, upd_eq, List.map_nil] <;> rfl) E3 ?_
      simp -implicitDefEqProofs only [↓ops_cons, yielded_tab, dstAt_s, dstAt_0, Nat.reduceLT, ybv_some, ne_eq, Nat.reduceEqDiff, not_false_eq_true, upd_ne, upd_eq, boolOf_b, ↓g_guard_t, ↓g_unOp, ev_tab, u_not, Bool.not_true, Option.map_some, ↓g_pick, ev_const, of_bool, pick_b, Bool.false_eq_true, if_false, ↓ops_nil, ↓w_cond, ↓w_seq, ↓w_region, ↓g_assign, ↓w_ret, retP_1, res_tmp, onS_some, ↓w_skip, of_int, ↓g_load, rd_def, tyOk32, agg32, cells32, k16, rd_aggc, Nat.zero_add, List.length_cons, List.length_nil, Nat.reduceAdd, Nat.le_refl, List.drop_zero, List.take_succ_cons, List.take_zero, if_true, ↓g_move, onB_false]
      refine call1S (by simp -implicitDefEqProofs only [List.map_cons, Nat.reduceLT, ev_tab, ne_eq, Nat.reduceEqDiff, not_false_eq_true, upd_ne, upd_eq, List.map_nil] <;> rfl) b1 ?_
      simp -implicitDefEqProofs only [↓ops_cons, ↓g_assign, ↓ops_nil, ↓w_seq, ↓w_region, Nat.reduceLT, ev_tab, upd_eq, ↓g_move, ↓g_binOp, ev_const, of_int, b_lss, kn, decide_false, ↓w_cond, ↓w_ret, of_bool, retP_1, res_tmp, onS_some, ↓w_skip, ne_eq, Nat.reduceEqDiff, not_false_eq_true, upd_ne, onB_false]
      refine call1S (by simp -implicitDefEqProofs only [List.map_cons, Nat.reduceLT, ev_tab, ne_eq, Nat.reduceEqDiff, not_false_eq_true, upd_ne, upd_eq, List.map_nil] <;> rfl) hd2 ?_
      simp -implicitDefEqProofs only [↓ops_cons, ↓g_assign, ↓ops_nil, ↓w_seq, ↓w_region, Nat.reduceLT, ev_tab, upd_eq, ↓g_move, ↓g_binOp, ev_const, of_int, b_lss, km, decide_false, ↓w_cond, ↓w_ret, of_bool, retP_1, res_tmp, onS_some, ↓w_skip, ne_eq, Nat.reduceEqDiff, not_false_eq_true, upd_ne, b_neq, decide_true, Bool.not_true, onB_false]
  obtain ⟨v, H', h1, rfl⟩ := key
  exact ⟨H', h1⟩
end Go.Proofs.Ytcjjcpdfnndenaa.Sim

