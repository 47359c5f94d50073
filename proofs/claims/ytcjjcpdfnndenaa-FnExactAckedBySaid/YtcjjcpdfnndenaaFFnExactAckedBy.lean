/- AckedBy: the law returns true. -/
import Derived.Test.YtcjjcpdfnndenaaFFlight5
namespace Go.Proofs.Ytcjjcpdfnndenaa.Sim
open Go
set_option maxRecDepth 100000
set_option maxHeartbeats 40000000
set_option linter.unusedSimpArgs false
set_option linter.unusedVariables false
theorem Own.lt {H : AHeap} {y : AV} {l : List Int} (h : Own H y l) {r o n k : Nat} (e : y = .sl r o n k) : r < H.length := by
  rcases h with ⟨rfl, _⟩ | ⟨r', rfl, h⟩
  · cases e
  · injection e with e1
    subst e1
    exact at_lt h
theorem lawFnExactAckedBy (H : AHeap) (x : AV) (s : List Int) (hs : s.length ≤ 9223372036854775807) (hx : IsL H x .i64 s) (y : AV) (g : List Int) (hg : g.length ≤ 9223372036854775807) (hy : IsL H y .i64 g) (t : Int) (z : AV) (l : List Int) (hl : l.length ≤ 9223372036854775807) (hz : IsL H z .i64 l) : ∃ H', Sound Try.prog 7 [.agg [x, y, .sc (.int .i64 t)], z] H (.sc (.bool true)) H' := by
  have key : ∃ v H', Sound Try.prog 7 [.agg [x, y, .sc (.int .i64 t)], z] H v H' ∧ v = .sc (.bool true) := by
    refine Sound.runP (args := [.agg [x, y, .sc (.int .i64 t)], z]) 90 [.tmp 4] Try.func7 rfl rfl rfl rfl (by simp) (fun v Z => v = .sc (.bool true)) ?_
    have x1 := hx.one
    have y1 := hy.one
    obtain ⟨A, hA⟩ : ∃ A : Reg, A = ⟨[x, y, .sc (.int .i64 t)], true, true⟩ := ⟨_, rfl⟩
    have e0 := Ext.more H [A]
    have a0 : (H ++ [A])[H.length]? = some ⟨[x, y, .sc (.int .i64 t)], true, true⟩ := by rw [← hA]; exact hap_0 H [A]
    obtain ⟨n, Z1, n1, n2, n3⟩ := szFlightS t (e0.isL hx) (e0.isL hy) hs hg 1048576 (by omega)
    have a1 := n2.at a0
    have e1 := e0.trans n2
    have lz := fun e => (e0.isL hz).len e
    by_cases hlg : (1048576 : Int) < l.length
    · simp -implicitDefEqProofs only [↓w_seq, ↓w_region, ↓ops_cons, ↓g_box, Nat.reduceLT, ev_tab, par0, cells_agg, ↓g_assign, ↓ops_nil, ev_const, of_bool, ↓g_move, ↓g_len, Try.underlying22, ne_eq, Nat.reduceEqDiff, not_false_eq_true, upd_ne, par1, upd_eq, ↓g_binOp, of_int, ↓w_cond, ↓w_ret, retP_1, res_tmp, onS_some, ↓w_skip, ↓g_load, alK_some, List.all_cons, x1, y1, one_int, List.all_nil, Bool.and_self, rd_def, tyOk29, agg29, cells29, hap_0, List.getElem?_cons_zero, rd_aggc, Nat.zero_add, List.length_cons, List.length_nil, Nat.reduceAdd, Nat.le_refl, List.drop_zero, List.take_succ_cons, List.take_zero, if_true, true_and]
      rw [← hA]
      simp -implicitDefEqProofs only [lz, onS_some, b_gtr, hlg, decide_true, onB_true]
    by_cases hn : n < 0
    · unfold flt at n1
      simp -implicitDefEqProofs only [↓w_seq, ↓w_region, ↓ops_cons, ↓g_box, Nat.reduceLT, ev_tab, par0, cells_agg, ↓g_assign, ↓ops_nil, ev_const, of_bool, ↓g_move, ↓g_len, Try.underlying22, ne_eq, Nat.reduceEqDiff, not_false_eq_true, upd_ne, par1, upd_eq, ↓g_binOp, of_int, ↓w_cond, ↓w_ret, retP_1, res_tmp, onS_some, ↓w_skip, ↓g_load, alK_some, List.all_cons, x1, y1, one_int, List.all_nil, Bool.and_self, rd_def, tyOk29, agg29, cells29, hap_0, List.getElem?_cons_zero, rd_aggc, Nat.zero_add, List.length_cons, List.length_nil, Nat.reduceAdd, Nat.le_refl, List.drop_zero, List.take_succ_cons, List.take_zero, if_true, true_and]
      rw [← hA]
      simp -implicitDefEqProofs only [lz, onS_some, b_gtr, hlg, decide_false, onB_false]
      refine call1S (by simp -implicitDefEqProofs only [List.map_cons, Nat.reduceLT, ev_tab, ne_eq, Nat.reduceEqDiff, not_false_eq_true, upd_ne, upd_eq, List.map_nil] <;> rfl) n1 ?_
      simp -implicitDefEqProofs only [↓ops_cons, ↓g_assign, ↓ops_nil, ↓w_seq, ↓w_region, Nat.reduceLT, ev_tab, upd_eq, ↓g_move, ↓g_binOp, ev_const, of_int, b_lss, hn, decide_true, ↓w_cond, ↓w_ret, of_bool, retP_1, res_tmp, onS_some, ↓w_skip, ↓g_load, ne_eq, Nat.reduceEqDiff, not_false_eq_true, upd_ne, rd_def, tyOk29, agg29, cells29, onB_true]
    · obtain ⟨hs2, hg2⟩ := n3 hn
      have hl2 : l.length ≤ 1000000000 := by omega
      have hal := ackL_len s g l
      obtain ⟨M, hM⟩ : ∃ (M : List Int), (¬ FlOk s g t ∧ M = g) ∨ (FlOk s g t ∧ M = ackL s g l) := by
        by_cases h : FlOk s g t
        · exact ⟨_, .inr ⟨h, rfl⟩⟩
        · exact ⟨_, .inl ⟨h, rfl⟩⟩
      have hM2 : M.length ≤ 1000000000 := by
        rcases hM with ⟨_, rfl⟩ | ⟨_, rfl⟩ <;> omega
      -- the reference
      obtain ⟨p2, q2, Z2, c1, c2, c3, c4, c5, c6⟩ := toFlightS t (e1.isL hx) (e1.isL hy) hs2 hg2
      have i2 := toIntsS ((e1.trans c2).isL hz) hl2
      have xi := Ext.more Z2 [⟨ints .i64 l, true, true⟩]
      obtain ⟨p3, v3, Z3, d1, d2, d3, d5, d7, d8⟩ := @ackedS _ (.sl p2 0 s.length 1) (.sl q2 0 g.length 1) (.sl Z2.length 0 l.length 1) s g l t M hM (IsL.mk (xi.at c5)) (IsL.mk (xi.at c6)) (IsL.mk (at_end _ _)) hs2 hg2 hl2
      have hI := fun (G : AHeap) (p q r : Nat) (h : G[p]? = some ⟨ints .i64 s, true, true⟩) (h' : G[q]? = some ⟨ints .i64 g, true, true⟩) (h'' : G[r]? = some ⟨ints .i64 l, true, true⟩) => ackedI t M hM (IsL.mk h) (IsL.mk h') (IsL.mk h'') hs2 hg2 hl2
      clear hM
      have v3o := d7.isL.one
      obtain ⟨W, hW⟩ : ∃ C : Reg, C = ⟨[.sl p3 0 s.length 1, v3, .sc (.int .i64 t)], true, true⟩ := ⟨_, rfl⟩
      have x3 := Ext.more Z3 [W]
      have w3 : (Z3 ++ [W])[Z3.length]? = some ⟨[.sl p3 0 s.length 1, v3, .sc (.int .i64 t)], true, true⟩ := by rw [← hW]; exact at_end Z3 W
      have a3 := x3.at (d2.at (xi.at (c2.at a1)))
      have e3 := (((e1.trans c2).trans xi).trans d2).trans x3
      -- what the program is given
      obtain ⟨p4, q4, Z4, f1, f2, f3, f4, f5, f6⟩ := toFlightS t (e3.isL hx) (e3.isL hy) hs2 hg2
      obtain ⟨F, hF⟩ : ∃ C : Reg, C = ⟨[.sl p4 0 s.length 1, .sl q4 0 g.length 1, .sc (.int .i64 t)], true, true⟩ := ⟨_, rfl⟩
      obtain ⟨Li, hLi⟩ : ∃ C : Reg, C = ⟨ints .i64 l, true, true⟩ := ⟨_, rfl⟩
      have x4 := Ext.more Z4 [F]
      have x4' := Ext.more (Z4 ++ [F]) [Li]
      have y4 : (Z4 ++ [F])[Z4.length]? = some ⟨[.sl p4 0 s.length 1, .sl q4 0 g.length 1, .sc (.int .i64 t)], true, true⟩ := by rw [← hF]; exact at_end Z4 F
      have i4 := toIntsS (((e3.trans f2).trans x4).isL hz) hl2
      have l4 : (Z4 ++ [F] ++ [Li])[(Z4 ++ [F]).length]? = some ⟨ints .i64 l, true, true⟩ := by rw [hLi]; exact at_end _ _
      obtain ⟨p5, v5, Z5, g1, g2, g3, g5, g7, g8⟩ := hI (Z4 ++ [F] ++ [Li]) p4 q4 (Z4 ++ [F]).length (x4'.at (x4.at f5)) (x4'.at (x4.at f6)) l4
      rw [← hLi] at i4
      have ln4 : (Z4 ++ [F]).length = Z4.length + 1 := by rw [List.length_append]; rfl
      rw [ln4] at i4 g1 l4
      have g3' : Z4.length + 2 ≤ p5 := by rw [List.length_append, ln4] at g3; exact g3
      have v5o := g7.isL.one
      obtain ⟨K, hK⟩ : ∃ C : Reg, C = ⟨[.sl p5 0 s.length 1, v5, .sc (.int .i64 t)], true, true⟩ := ⟨_, rfl⟩
      have x5 := Ext.more Z5 [K]
      have k5 : (Z5 ++ [K])[Z5.length]? = some ⟨[.sl p5 0 s.length 1, v5, .sc (.int .i64 t)], true, true⟩ := by rw [← hK]; exact at_end Z5 K
      have o5 := (((f2.trans x4).trans x4').trans g2).trans x5
      have e5 := e3.trans o5
      obtain ⟨Z6, h1, h2⟩ := eqFlightS t (IsL.mk (x5.at g5)) (g7.ext x5).isL (IsL.mk (o5.at (x3.at d5))) ((d7.ext x3).ext o5).isL hs2 hM2
      have e6 := e5.trans h2
      obtain ⟨p7, q7, Z7, i1, i2', i3, i4', i5, i6⟩ := toFlightS t (e6.isL hx) (e6.isL hy) hs2 hg2
      have j6 := ((((x4.trans x4').trans g2).trans x5).trans h2).trans i2'
      obtain ⟨Z8, j1, j2⟩ := eqFlightS t (IsL.mk (j6.at f5)) (IsL.mk (j6.at f6)) (IsL.mk i5) (IsL.mk i6) hs2 hg2
      -- what is there before the marks
      have m8 := (h2.trans i2').trans j2
      have o8 := o5.trans m8
      have e8 := e3.trans o8
      have ie := toIntsS (e8.isL hz) hl2
      obtain ⟨Le, hLe⟩ : ∃ C : Reg, C = ⟨ints .i64 l, true, true⟩ := ⟨_, rfl⟩
      have xe := Ext.more Z8 [Le]
      have le : (Z8 ++ [Le])[Z8.length]? = some ⟨ints .i64 l, true, true⟩ := by rw [hLe]; exact at_end _ _
      rw [← hLe] at ie
      have lg8 : (Z8 ++ [Le])[Z4.length + 1]? = some ⟨ints .i64 l, true, true⟩ := ((g2.trans (x5.trans m8)).trans xe).at l4
      have E0 := eqS (IsL.mk lg8) (IsL.mk le) (by omega) (by omega)
      have n8 : (Z8 ++ [Le]).length = Z8.length + 1 := by rw [List.length_append]; rfl
      have r8 := xe.at ((j6.trans j2).at f5)
      have s8 := xe.at ((j6.trans j2).at f6)
      have a8 := xe.at (o8.at a3)
      have w8 := xe.at (o8.at w3)
      have y7 := (((((x4'.trans g2).trans x5).trans h2)).trans i2').at y4
      have y6 := (((((x4'.trans g2).trans x5).trans h2))).at y4
      have y8 := xe.at (j2.at y7)
      have k8 := xe.at (m8.at k5)
      have d58 := xe.at (o8.at (x3.at d5))
      have d78 := (d7.ext (x3.trans o8)).ext xe
      have g58 := xe.at ((x5.trans m8).at g5)
      have g78 := (g7.ext (x5.trans m8)).ext xe
      have e9 := e8.trans xe
      have z1 : H.length < Z1.length := at_lt a1
      have z2 : Z2.length + 1 ≤ p3 := by rw [List.length_append] at d3; exact d3
      have z2' : Z1.length ≤ Z2.length := c2.1
      have z3 : p3 < Z3.length := at_lt d5
      have z4 : Z3.length + 1 ≤ p4 := by rw [List.length_append] at f3; exact f3
      have z5 : q4 < Z4.length := at_lt f6
      have z7 : p5 < Z5.length := at_lt g5
      have z8 : Z5.length < Z8.length := at_lt (m8.at k5)
      have z9 : ∀ r o n k, v3 = .sl r o n k → r < Z3.length := fun r o n k e => d7.lt e
      have z10 : ∀ r o n k, v5 = .sl r o n k → p5 < r ∧ r < Z5.length := fun r o n k e => ⟨g8 r o n k e, g7.lt e⟩
      generalize Z8 ++ [Le] = Y8 at *
      -- marks in what was given
      obtain ⟨Z9, l1, l2, l3, l4', l5⟩ := markFlightS t (Own.sl r8) (Own.sl s8) hs2 hg2 (fun r o n k e => by
        injection e with e1
        subst e1
        exact .sl (by omega))
      have keep9 : ∀ i, i < Z8.length + 1 → i ≠ p4 → i ≠ q4 → Z9[i]? = Y8[i]? := fun i hi h1 h2 => l5 i (by omega) (.sl h1) (.sl h2)
      have lg9 := (keep9 (Z4.length + 1) (by omega) (by omega) (by omega)).trans lg8
      -- and in the list
      have q0 := markSk (1 + s.length + g.length) (by omega) lg9 hl2
      obtain ⟨X9, hX9⟩ : ∃ X, X = Z9.set (Z4.length + 1) ⟨ints .i64 (marked (1 + s.length + g.length) l.length), true, true⟩ := ⟨_, rfl⟩
      rw [← hX9] at q0
      have keepX : ∀ i, i < Z8.length + 1 → i ≠ p4 → i ≠ q4 → i ≠ Z4.length + 1 → X9[i]? = Y8[i]? := fun i hi h1 h2 h3 => by
        rw [hX9, List.getElem?_set_ne (fun e => h3 e.symm)]
        exact keep9 i hi h1 h2
      have nX : Z8.length + 1 ≤ X9.length := by rw [hX9, List.length_set]; omega
      have w9 := (keepX Z3.length (by omega) (by omega) (by omega) (by omega)).trans w8
      have k9 := (keepX Z5.length (by omega) (by omega) (by omega) (by omega)).trans k8
      have d59 := (keepX p3 (by omega) (by omega) (by omega) (by omega)).trans d58
      have d79 : Own X9 v3 M := d78.keep fun r o n k e => keepX r (by have := z9 r o n k e; omega) (by have := z9 r o n k e; omega) (by have := z9 r o n k e; omega) (by have := z9 r o n k e; omega)
      have g59 := (keepX p5 (by omega) (by omega) (by omega) (by omega)).trans g58
      have g79 : Own X9 v5 M := g78.keep fun r o n k e => keepX r (by have := z10 r o n k e; omega) (by have := z10 r o n k e; omega) (by have := z10 r o n k e; omega) (by have := z10 r o n k e; omega)
      obtain ⟨Z10, m1, m2⟩ := eqFlightS t (IsL.mk g59) g79.isL (IsL.mk d59) d79.isL hs2 hM2
      have z11 := m2.1
      -- marks in what was answered
      obtain ⟨Z11, o1, o2, o3, o4, o6⟩ := markFlightS t (Own.sl (m2.at g59)) (g79.ext m2) hs2 hM2 (fun r o n k e => .sl (by have := z10 r o n k e; omega))
      have ap5 : ∀ i, i ≤ p5 ∨ Z5.length ≤ i → Apart v5 i := fun i hi r o n k e => by
        have := z10 r o n k e
        omega
      have keep11 : ∀ i, i < Z8.length + 1 → i < p4 ∨ (Z4.length + 1 < i ∧ i < p5) ∨ Z5.length ≤ i → Z11[i]? = Y8[i]? := fun i hi h => ((o6 i (by omega) (.sl (by omega)) (ap5 i (by omega))).trans (m2.2 i (by omega))).trans (keepX i hi (by omega) (by omega) (by omega))
      have a11 := (keep11 H.length (by omega) (by omega)).trans a8
      have w11 := (keep11 Z3.length (by omega) (by omega)).trans w8
      have k11 := (keep11 Z5.length (by omega) (by omega)).trans k8
      have d511 := (keep11 p3 (by omega) (by omega)).trans d58
      have d711 : Own Z11 v3 M := d78.keep fun r o n k e => keep11 r (by have := z9 r o n k e; omega) (by have := z9 r o n k e; omega)
      have e11 : Ext H Z11 := ⟨by have := e9.1; omega, fun i hi => (keep11 i (by omega) (by omega)).trans (e9.2 i hi)⟩
      obtain ⟨Z13, r1, r2⟩ := heldFlightS t o2.isL o3.isL hs2 hM2
      have e13 := e11.trans r2
      -- once more
      obtain ⟨p14, q14, Z14, s1, s2, s3, s4, s5, s6⟩ := toFlightS t (e13.isL hx) (e13.isL hy) hs2 hg2
      have i14 := toIntsS ((e13.trans s2).isL hz) hl2
      have x14 := Ext.more Z14 [⟨ints .i64 l, true, true⟩]
      obtain ⟨p15, v15, Z15, t1, t2, t3, t5, t7, t8⟩ := hI (Z14 ++ [⟨ints .i64 l, true, true⟩]) p14 q14 Z14.length (x14.at s5) (x14.at s6) (at_end _ _)
      have v15o := t7.isL.one
      obtain ⟨J, hJ⟩ : ∃ C : Reg, C = ⟨[.sl p15 0 s.length 1, v15, .sc (.int .i64 t)], true, true⟩ := ⟨_, rfl⟩
      have x15 := Ext.more Z15 [J]
      have l15 := (((r2.trans s2).trans x14).trans t2).trans x15
      have w15 := l15.at w11
      have k15 := l15.at k11
      have j15 : (Z15 ++ [J])[Z15.length]? = some ⟨[.sl p15 0 s.length 1, v15, .sc (.int .i64 t)], true, true⟩ := by rw [← hJ]; exact at_end Z15 J
      obtain ⟨Z16, u1, u2⟩ := eqFlightS t (IsL.mk (x15.at t5)) (t7.ext x15).isL (IsL.mk (l15.at d511)) (d711.ext l15).isL hs2 hM2
      have k16 := u2.at k15
      obtain ⟨Z17, b1, b2⟩ := heldFlightS t (o2.ext (l15.trans u2)).isL (o3.ext (l15.trans u2)).isL hs2 hM2
      simp only [decide_true] at E0
      have kn : ¬ (1 : Int) + s.length + g.length + l.length < 0 := by omega
      have km : ¬ (1 : Int) + s.length + M.length < 0 := by omega
      unfold flt at n1 c1 d1 f1 g1 h1 i1 j1 l1 m1 o1 r1 s1 t1 u1 b1
      simp -implicitDefEqProofs only [↓w_seq, ↓w_region, ↓ops_cons, ↓g_box, Nat.reduceLT, ev_tab, par0, cells_agg, ↓g_assign, ↓ops_nil, ev_const, of_bool, ↓g_move, ↓g_len, Try.underlying22, ne_eq, Nat.reduceEqDiff, not_false_eq_true, upd_ne, par1, upd_eq, ↓g_binOp, of_int, ↓w_cond, ↓w_ret, retP_1, res_tmp, onS_some, ↓w_skip, ↓g_load, alK_some, List.all_cons, x1, y1, one_int, List.all_nil, Bool.and_self, rd_def, tyOk29, agg29, cells29, hap_0, List.getElem?_cons_zero, rd_aggc, Nat.zero_add, List.length_cons, List.length_nil, Nat.reduceAdd, Nat.le_refl, List.drop_zero, List.take_succ_cons, List.take_zero, if_true, true_and]
      rw [← hA]
      simp -implicitDefEqProofs only [lz, onS_some, b_gtr, hlg, decide_false, onB_false]
      refine call1S (by simp -implicitDefEqProofs only [List.map_cons, Nat.reduceLT, ev_tab, ne_eq, Nat.reduceEqDiff, not_false_eq_true, upd_ne, upd_eq, List.map_nil] <;> rfl) n1 ?_
      simp -implicitDefEqProofs only [↓ops_cons, ↓g_assign, ↓ops_nil, ↓w_seq, ↓w_region, Nat.reduceLT, ev_tab, upd_eq, ↓g_move, ↓g_binOp, ev_const, of_int, b_lss, hn, decide_false, ↓w_cond, ↓w_ret, of_bool, retP_1, res_tmp, onS_some, ↓w_skip, ↓g_load, ne_eq, Nat.reduceEqDiff, not_false_eq_true, upd_ne, rd_def, tyOk29, agg29, cells29, a1, rd_aggc, Nat.zero_add, List.length_cons, List.length_nil, Nat.reduceAdd, Nat.le_refl, List.drop_zero, List.take_succ_cons, List.take_zero, if_true, onB_false]
      refine call1S (by simp -implicitDefEqProofs only [List.map_cons, Nat.reduceLT, ev_tab, upd_eq, List.map_nil] <;> rfl) c1 ?_
      simp -implicitDefEqProofs only [↓ops_cons, ↓g_move, Nat.reduceLT, ev_tab, ne_eq, Nat.reduceEqDiff, not_false_eq_true, upd_ne, par1]
      refine call1S (by simp -implicitDefEqProofs only [List.map_cons, Nat.reduceLT, ev_tab, upd_eq, List.map_nil] <;> rfl) i2 ?_
      simp -implicitDefEqProofs only [↓ops_cons]
      refine call1S (by simp -implicitDefEqProofs only [List.map_cons, Nat.reduceLT, ev_tab, ne_eq, Nat.reduceEqDiff, not_false_eq_true, upd_ne, upd_eq, List.map_nil] <;> rfl) d1 ?_
      simp -implicitDefEqProofs only [↓ops_cons, ↓g_alloc, zero32, Option.map_some, ↓g_store, Nat.reduceLT, ev_tab, upd_eq, ne_eq, Nat.reduceEqDiff, not_false_eq_true, upd_ne, ↓ops_nil, ↓w_seq, ↓w_region, ↓g_load, rd_def, tyOk29, agg29, cells29, alK_some, List.all_cons, one_nil, one_int, List.all_nil, Bool.and_self, wr_def, tyOk32, cells32, hap_0, List.getElem?_cons_zero, wr_c, cells_agg, List.length_cons, List.length_nil, Nat.zero_add, Nat.reduceAdd, Nat.le_refl, one_sl, v3o, and_self, ovr_fm, ovr_fn, hset_0, List.set_cons_zero, if_true, onS_some, true_and]
      rw [← hW]
      simp -implicitDefEqProofs only [a3, rd_aggc, Nat.zero_add, List.length_cons, List.length_nil, Nat.reduceAdd, Nat.le_refl, List.drop_zero, List.take_succ_cons, List.take_zero, if_true, onS_some]
      refine call1S (by simp -implicitDefEqProofs only [List.map_cons, Nat.reduceLT, ev_tab, upd_eq, List.map_nil] <;> rfl) f1 ?_
      simp -implicitDefEqProofs only [↓ops_cons, ↓g_alloc, zero32, Option.map_some, ↓g_store, Nat.reduceLT, ev_tab, upd_eq, ne_eq, Nat.reduceEqDiff, not_false_eq_true, upd_ne, ↓ops_nil, ↓w_seq, ↓w_region, ↓g_move, par1, alK_some, List.all_cons, one_nil, one_int, List.all_nil, Bool.and_self, wr_def, tyOk32, cells32, hap_0, List.getElem?_cons_zero, wr_c, cells_agg, List.length_cons, List.length_nil, Nat.zero_add, Nat.reduceAdd, Nat.le_refl, one_sl, and_self, ovr_fm, ovr_fn, hset_0, List.set_cons_zero, if_true, onS_some, true_and]
      rw [← hF]
      refine call1S (by simp -implicitDefEqProofs only [List.map_cons, Nat.reduceLT, ev_tab, upd_eq, List.map_nil] <;> rfl) i4 ?_
      simp -implicitDefEqProofs only [↓ops_cons, ↓g_assign, ↓ops_nil, ↓w_seq, ↓w_region, Nat.reduceLT, ev_tab, upd_eq, ↓g_load, ne_eq, Nat.reduceEqDiff, not_false_eq_true, upd_ne, rd_def, tyOk32, agg32, cells32, x4'.at y4, rd_aggc, Nat.zero_add, List.length_cons, List.length_nil, Nat.reduceAdd, Nat.le_refl, List.drop_zero, List.take_succ_cons, List.take_zero, if_true, ↓g_move, onS_some]
      refine call1S (by simp -implicitDefEqProofs only [List.map_cons, Nat.reduceLT, ev_tab, ne_eq, Nat.reduceEqDiff, not_false_eq_true, upd_ne, upd_eq, List.map_nil] <;> rfl) g1 ?_
      simp -implicitDefEqProofs only [↓ops_cons, ↓g_alloc, zero32, Option.map_some, ↓g_store, Nat.reduceLT, ev_tab, upd_eq, ne_eq, Nat.reduceEqDiff, not_false_eq_true, upd_ne, ↓ops_nil, ↓w_seq, ↓w_region, ↓g_load, rd_def, tyOk32, agg32, cells32, alK_some, List.all_cons, one_nil, one_int, List.all_nil, Bool.and_self, wr_def, hap_0, List.getElem?_cons_zero, wr_c, cells_agg, List.length_cons, List.length_nil, Nat.zero_add, Nat.reduceAdd, Nat.le_refl, one_sl, v5o, and_self, ovr_fm, ovr_fn, hset_0, List.set_cons_zero, if_true, onS_some, rd_aggc, List.drop_zero, List.take_succ_cons, List.take_zero, true_and]
      rw [← hK]
      simp -implicitDefEqProofs only [o5.at w3, rd_aggc, Nat.zero_add, List.length_cons, List.length_nil, Nat.reduceAdd, Nat.le_refl, List.drop_zero, List.take_succ_cons, List.take_zero, if_true, onS_some]
      refine call1S (by simp -implicitDefEqProofs only [List.map_cons, Nat.reduceLT, ev_tab, ne_eq, Nat.reduceEqDiff, not_false_eq_true, upd_ne, upd_eq, List.map_nil] <;> rfl) h1 ?_
      simp -implicitDefEqProofs only [↓ops_cons, ↓g_unOp, Nat.reduceLT, ev_tab, upd_eq, u_not, Bool.not_true, Option.map_some, ↓ops_nil, ↓w_cond, ↓w_seq, ↓w_region, ↓g_assign, ↓w_ret, ev_const, of_bool, retP_1, res_tmp, onS_some, ↓w_skip, onB_false]
      refine drawn [(0, 0), (0, 3), (1, 0)] follows (by kernel_rfl) (by kernel_rfl) ?_
      simp -implicitDefEqProofs only [↓dops_cons, ↓g_load, Nat.reduceLT, ev_tab, ne_eq, Nat.reduceEqDiff, not_false_eq_true, upd_ne, upd_eq, rd_def, tyOk32, agg32, cells32, y6, rd_aggc, Nat.zero_add, List.length_cons, List.length_nil, Nat.reduceAdd, Nat.le_refl, List.drop_zero, List.take_succ_cons, List.take_zero, if_true, tyOk29, agg29, cells29, (o5.trans h2).at a3, onS_some]
      refine call1S (by simp -implicitDefEqProofs only [List.map_cons, Nat.reduceLT, ev_tab, upd_eq, List.map_nil] <;> rfl) i1 ?_
      simp -implicitDefEqProofs only [↓dops_cons]
      refine call1S (by simp -implicitDefEqProofs only [List.map_cons, Nat.reduceLT, ev_tab, ne_eq, Nat.reduceEqDiff, not_false_eq_true, upd_ne, upd_eq, List.map_nil] <;> rfl) j1 ?_
      simp -implicitDefEqProofs only [↓dops_cons, ↓g_unOp, Nat.reduceLT, ev_tab, upd_eq, u_not, Bool.not_true, Option.map_some, ↓dops_p, ↓w_cond, ↓w_seq, ↓w_region, ↓ops_cons, ↓g_assign, ↓ops_nil, ↓w_ret, ev_const, of_bool, retP_1, res_tmp, onS_some, ↓w_skip, ↓g_move, ne_eq, Nat.reduceEqDiff, not_false_eq_true, upd_ne, par1, onB_false]
      refine ⟨pairs_cons (same_H rfl) (pairs_cons (same_ld _ _ Z4.length 0 rfl rfl (y7.trans y6.symm)) (pairs_cons (same_H rfl) pairs_nil)), ?_⟩
      try simp -implicitDefEqProofs only [↓w_seq, ↓w_skip, ↓w_ret, ↓w_exit, ↓w_block, ↓w_cond, ↓w_region, ↓ops_nil, ↓ops_cons, ↓dops_0, ↓dops_p, ↓dops_cons, ↓g_move, ↓g_assign, ↓g_binOp, ↓g_unOp, ↓g_pick, ↓g_len, ↓g_index, ↓g_indexAddr, ↓g_slice, ↓g_convert, ↓g_load, ↓g_store, ↓g_extract, ↓g_nilCheck, ↓g_fieldT, ↓g_fieldAddrT, of_agg, rd_aggc, rd_onec, wr_c, cells_int, cells_str, cells_bool, cells_nil, cells_sl, cells_ptr, cells_agg, one_int, one_str, one_bool, one_nil, one_sl, one_ptr, over_0, over_s, List.all_cons, List.all_nil, Bool.and_true, Bool.and_self, List.getElem?_nil, List.drop_succ_cons, List.drop_nil, ↓g_guard_t, ↓g_guard_f, ↓g_alloc, ↓g_box, ↓g_buildSlice, ↓g_makeSlice, ↓g_buildV, rdA, wrA, ints_one, List.length_replicate, bools_one, strs_one, rd_bools, rd_strs, wr_bools, wr_strs, at_bools, at_strs, ap_bools, ap_boolsN, ap_strs, ap_strsN, ↓g_append, src_sl, src_nil, src_str, ap_ints, ap_intsN, kill_len, kill_0, kill_s, bnd_none, bnd_int, cut_str, cutS_some, cut_sl, cutL_some, bits_i64, bits_u32, bits_u8, List.getD_cons_zero, List.getD_cons_succ, at_end, at_a, at_b, yielded_tab, dstAt_0, dstAt_s, ybv_some, boolOf_b, ext_0, ext_1, ext_2, ext_3, alK_some, ev_tab, ev_const, upd_eq, upd_ne, par0, par1, par2, par3, par4, par5, of_int, of_str, of_bool, len_str, len_arr, len_sl, idx_str, adr_sl, adr_arr, c_int, c_str, c_bytes, c_text, pick_b, onS_some, onS_ite, onS_not, b_add, b_sub, b_mul, b_and, b_or, b_xor, b_eql, b_neq, b_lss, b_leq, b_gtr, b_geq, b_shl, b_shr, b_quo, b_rem, t_add, t_eql, t_neq, v_eql, v_neq, b_andNot, u_not, onB_true, onB_false, onB_dec, onB_not, ret_cell, ret_ct, retP_0, retP_1, retP_2, retP_3, res_tmp, res_cell, ret_one, ret_two, ret_three, ret_none, List.set_set, if_true, if_false, ite_true, ite_false, List.map_cons, List.map_nil, Option.map_some, Option.map_none, List.toList_toArray, rd_def, rd_ints, wr_def, wr_ints, at_def, at_ints, bytes_ints, bytesA_ints, ints_set, nums_len, List.length_nil, List.length_cons, List.length_set, List.length_append, List.nil_append, List.cons_append, List.getElem?_cons_zero, List.getElem?_cons_succ, List.set_cons_zero, List.set_cons_succ, List.drop_zero, List.take_succ_cons, List.take_zero, List.take_length, Option.bind_some, true_and, and_true, Nat.zero_add, Nat.mul_one, Int.toNat_zero, Int.reduceToNat, Int.reduceAdd, Int.reduceSub, Int.reduceMul, Int.reduceNeg, Nat.reduceAdd, Nat.reduceSub, Nat.reduceMul, Nat.reducePow, Nat.min_eq_left, Int.reducePow, Nat.le_refl, Int.cast_ofNat_Int, Nat.reduceLT, Nat.reduceLeDiff, Nat.reduceEqDiff, Int.reduceLE, Int.reduceLT, Int.reduceEq, ne_eq, not_false_eq_true, not_true_eq_false, reduceCtorEq, decide_true, decide_false, and_self, and_false, false_and, Bool.not_true, Bool.not_false, Try.underlying0, Try.underlying1, Try.underlying2, Try.underlying3, Try.underlying4, Try.underlying5, Try.underlying6, Try.underlying7, Try.underlying8, Try.underlying9, Try.underlying10, Try.underlying11, Try.underlying12, Try.underlying13, Try.underlying14, Try.underlying15, Try.underlying16, Try.underlying17, Try.underlying18, Try.underlying19, Try.underlying20, Try.underlying21, Try.underlying22, Try.underlying23, Try.underlying24, Try.underlying25, Try.underlying26, Try.underlying27, Try.underlying28, Try.underlying29, Try.underlying30, Try.underlying31, Try.underlying32, Try.underlying33, Try.underlying34, Try.underlying35, Try.underlying36, Try.underlying37, Try.underlying38, Try.underlying39, Try.underlying40, Try.underlying41, Try.underlying42, Try.underlying43, Try.underlying44, Try.underlying45, Try.underlying46, Try.underlying47, Try.underlying48, Try.underlying49, Try.underlying50, Try.underlying51, Try.underlying52, Try.underlying53, Try.underlying54, Try.underlying55, Try.underlying56, Try.underlying57, Try.underlying58, Try.underlying59, Try.underlying60, Try.underlying61, Try.underlying62, Try.underlying63, Try.underlying64, Try.underlying65, Try.underlying66, Try.underlying67, Try.underlying68, Try.underlying69, Try.underlying70, Try.underlying71, Try.underlying72, Try.underlying73, Try.underlying74, Try.underlying75, Try.underlying76, Try.underlying77, Try.underlying78, Try.underlying79, Try.underlying80, Try.underlying81, Try.underlying82, Try.underlying83, Try.underlying84, Try.underlying85, Try.underlying86, Try.underlying87, Try.underlying88, Try.underlying89, Try.underlying90, Try.underlying91, Try.underlying92, Try.underlying93, Try.underlying94, Try.underlying95, Try.underlying96, Try.underlying97, Try.underlying98, Try.underlying99, Try.underlying100, Try.underlying101, Try.underlying102, Try.underlying103, Try.underlying104, Try.underlying105, Try.underlying106, Try.underlying107, Try.underlying108, Try.underlying109, Try.underlying110, Try.underlying111, Try.underlying112, Try.underlying113, Try.underlying114, tyOk0, agg0, cells0, tyOk1, agg1, cells1, tyOk2, agg2, cells2, zero2, info2, mk2, bs2_0, bs2_1, bs2_2, bs2_3, bs2_4, bs2_5, bs2_6, bs2_7, bs2_8, bs2_10, bs2_11, bs2_12, bs2_13, tyOk3, agg3, cells3, zero3, apS22, apN22, info3, mk3, bs3_0, bs3_1, bs3_2, bs3_3, bs3_4, bs3_5, bs3_6, bs3_7, bs3_8, bs3_10, bs3_11, bs3_12, bs3_13, tyOk4, agg4, cells4, zero4, info4, mk4, bs4_0, bs4_1, bs4_2, tyOk5, agg5, cells5, isU5, zero5, apS46, apN46, apStr46, info5, mk5, bs5_0, bs5_1, bs5_2, bs5_3, bs5_4, bs5_5, bs5_6, bs5_7, bs5_8, bs5_10, bs5_11, bs5_12, bs5_13, tyOk6, agg6, cells6, isU6, zero6, info6, mk6, bs6_0, bs6_1, bs6_2, bs6_3, bs6_4, bs6_5, bs6_6, bs6_7, bs6_8, bs6_10, bs6_11, bs6_12, bs6_13, tyOk7, agg7, cells7, zero7, fadr7_0, fld7_0, fadr7_1, fld7_1, fadr7_2, fld7_2, fadr7_3, fld7_3, bz7, bds7, tyOk8, agg8, cells8, zero8, fadr8_0, fld8_0, fadr8_1, fld8_1, fadr8_2, fld8_2, fadr8_3, fld8_3, bz8, bds8, tyOk9, agg9, cells9, zero9, info9, bs9_0, bs9_1, bs9_2, bs9_3, bs9_4, bs9_5, bs9_6, bs9_8, bs9_9, bs9_10, tyOk10, agg10, cells10, zero10, info10, bs10_0, bs10_1, bs10_2, bs10_3, bs10_4, bs10_5, bs10_6, bs10_8, bs10_9, bs10_10, tyOk11, agg11, cells11, zero11, info11, bs11_0, bs11_1, bs11_2, bs11_3, bs11_4, bs11_5, bs11_6, bs11_8, bs11_9, bs11_10, tyOk12, agg12, cells12, zero12, info12, mk12, bs12_0, bs12_1, bs12_2, bs12_3, bs12_4, bs12_5, bs12_6, bs12_7, bs12_8, bs12_10, bs12_11, bs12_12, bs12_13, tyOk13, agg13, cells13, zero13, fadr13_0, fld13_0, fadr13_1, fld13_1, bz13, bds13, tyOk14, agg14, cells14, zero14, fadr14_0, fld14_0, fadr14_1, fld14_1, bz14, bds14, tyOk15, agg15, cells15, zero15, tyOk16, agg16, cells16, zero16, tyOk17, agg17, cells17, zero17, tyOk18, agg18, cells18, zero18, fadr18_0, fld18_0, bz18, bds18, tyOk19, agg19, cells19, zero19, fadr19_0, fld19_0, bz19, bds19, tyOk20, agg20, cells20, tyOk21, agg21, cells21, zero21, info21, mk21, bs21_0, bs21_1, bs21_2, bs21_3, bs21_4, bs21_5, bs21_6, bs21_7, bs21_8, bs21_10, bs21_11, bs21_12, bs21_13, tyOk22, agg22, cells22, zero22, tyOk23, agg23, cells23, tyOk24, agg24, cells24, tyOk25, agg25, cells25, tyOk26, agg26, cells26, tyOk27, agg27, cells27, tyOk28, agg28, cells28, zero28, fadr28_0, fld28_0, fadr28_1, fld28_1, fadr28_2, fld28_2, bz28, bds28, tyOk29, agg29, cells29, zero29, fadr29_0, fld29_0, fadr29_1, fld29_1, fadr29_2, fld29_2, bz29, bds29, tyOk30, agg30, cells30, tyOk31, agg31, cells31, tyOk32, agg32, cells32, zero32, fadr32_0, fld32_0, fadr32_1, fld32_1, fadr32_2, fld32_2, bz32, bds32, tyOk33, agg33, cells33, tyOk34, agg34, cells34, tyOk35, agg35, cells35, tyOk36, agg36, cells36, tyOk37, agg37, cells37, tyOk38, agg38, cells38, tyOk39, agg39, cells39, tyOk40, agg40, cells40, tyOk41, agg41, cells41, tyOk42, agg42, cells42, tyOk43, agg43, cells43, tyOk44, agg44, cells44, tyOk45, agg45, cells45, tyOk46, agg46, cells46, zero46, tyOk47, agg47, cells47, tyOk48, agg48, cells48, tyOk49, agg49, cells49, tyOk50, agg50, cells50, tyOk51, agg51, cells51, tyOk52, agg52, cells52, tyOk53, agg53, cells53, tyOk54, agg54, cells54, tyOk55, agg55, cells55, tyOk56, agg56, cells56, tyOk57, agg57, cells57, tyOk58, agg58, cells58, tyOk59, agg59, cells59, tyOk60, agg60, cells60, tyOk61, agg61, cells61, zero61, tyOk62, agg62, cells62, tyOk63, agg63, cells63, tyOk64, agg64, cells64, tyOk65, agg65, cells65, tyOk66, agg66, cells66, tyOk67, agg67, cells67, tyOk68, agg68, cells68, tyOk69, agg69, cells69, tyOk70, agg70, cells70, zero70, fadr70_0, fld70_0, fadr70_1, fld70_1, fadr70_2, fld70_2, bz70, bds70, tyOk71, agg71, cells71, zero71, fadr71_0, fld71_0, fadr71_1, fld71_1, fadr71_2, fld71_2, bz71, bds71, tyOk72, agg72, cells72, zero72, info72, mk72, bs72_0, bs72_1, bs72_2, bs72_3, bs72_4, bs72_5, bs72_6, bs72_7, bs72_8, bs72_10, bs72_11, bs72_12, bs72_13, tyOk73, agg73, cells73, tyOk74, agg74, cells74, tyOk75, agg75, cells75, tyOk76, agg76, cells76, tyOk77, agg77, cells77, zero77, info77, mk77, bs77_0, bs77_1, bs77_2, bs77_3, bs77_4, bs77_5, bs77_6, bs77_7, bs77_8, bs77_10, bs77_11, bs77_12, bs77_13, tyOk78, agg78, cells78, tyOk79, agg79, cells79, tyOk80, agg80, cells80, tyOk81, agg81, cells81, tyOk82, agg82, cells82, tyOk83, agg83, cells83, tyOk84, agg84, cells84, tyOk85, agg85, cells85, tyOk86, agg86, cells86, zero86, info86, mk86, bs86_0, bs86_1, bs86_2, bs86_3, bs86_4, bs86_5, bs86_6, bs86_7, bs86_8, bs86_10, bs86_11, bs86_12, bs86_13, tyOk87, agg87, cells87, tyOk88, agg88, cells88, zero88, info88, mk88, bs88_0, bs88_1, bs88_2, bs88_3, bs88_4, bs88_5, bs88_6, bs88_7, bs88_8, bs88_10, bs88_11, bs88_12, bs88_13, tyOk89, agg89, cells89, zero89, info89, mk89, bs89_0, bs89_1, bs89_2, bs89_3, bs89_4, bs89_5, bs89_6, bs89_7, bs89_8, bs89_10, bs89_11, bs89_12, bs89_13, tyOk90, agg90, cells90, tyOk91, agg91, cells91, tyOk92, agg92, cells92, tyOk93, agg93, cells93, zero93, tyOk94, agg94, cells94, tyOk95, agg95, cells95, tyOk96, agg96, cells96, zero96, tyOk97, agg97, cells97, tyOk98, agg98, cells98, tyOk99, agg99, cells99, tyOk100, agg100, cells100, zero100, fadr100_0, fld100_0, fadr100_1, fld100_1, fadr100_2, fld100_2, fadr100_3, fld100_3, bz100, bds100, tyOk101, agg101, cells101, zero101, fadr101_0, fld101_0, fadr101_1, fld101_1, fadr101_2, fld101_2, fadr101_3, fld101_3, bz101, bds101, tyOk102, agg102, cells102, zero102, tyOk103, agg103, cells103, zero103, tyOk104, agg104, cells104, zero104, tyOk105, agg105, cells105, tyOk106, agg106, cells106, isU106, zero106, info106, mk106, bs106_0, bs106_1, bs106_2, bs106_3, bs106_4, bs106_5, bs106_6, bs106_7, bs106_8, bs106_10, bs106_11, bs106_12, bs106_13, tyOk107, agg107, cells107, isU107, zero107, info107, mk107, bs107_0, bs107_1, bs107_2, bs107_3, bs107_4, bs107_5, bs107_6, bs107_7, bs107_8, bs107_10, bs107_11, bs107_12, bs107_13, tyOk108, agg108, cells108, tyOk109, agg109, cells109, zero109, tyOk110, agg110, cells110, zero110, info110, mk110, bs110_0, bs110_1, bs110_2, bs110_3, bs110_4, bs110_5, bs110_6, bs110_7, bs110_8, bs110_10, bs110_11, bs110_12, bs110_13, tyOk111, agg111, cells111, zero111, info111, mk111, bs111_0, bs111_1, bs111_2, bs111_3, bs111_4, bs111_5, bs111_6, bs111_7, bs111_8, bs111_10, bs111_11, bs111_12, bs111_13, tyOk112, agg112, cells112, fadr112_0, fld112_0, fadr112_1, fld112_1, fadr112_2, fld112_2, fadr112_3, fld112_3, fadr112_4, fld112_4, fadr112_5, fld112_5, fadr112_6, fld112_6, fadr112_7, fld112_7, fadr112_8, fld112_8, fadr112_9, fld112_9, fadr112_10, fld112_10, tyOk113, agg113, cells113, fadr113_0, fld113_0, fadr113_1, fld113_1, fadr113_2, fld113_2, fadr113_3, fld113_3, fadr113_4, fld113_4, fadr113_5, fld113_5, fadr113_6, fld113_6, fadr113_7, fld113_7, fadr113_8, fld113_8, fadr113_9, fld113_9, fadr113_10, fld113_10, tyOk114, agg114, cells114, zero114, Bool.false_eq_true]
      refine call1S (by simp -implicitDefEqProofs only [List.map_cons, Nat.reduceLT, ev_tab, upd_eq, List.map_nil] <;> rfl) ie ?_
      simp -implicitDefEqProofs only [↓ops_cons]
      refine call1S (by simp -implicitDefEqProofs only [List.map_cons, Nat.reduceLT, ev_tab, ne_eq, Nat.reduceEqDiff, not_false_eq_true, upd_ne, upd_eq, List.map_nil] <;> rfl) E0 ?_
      simp -implicitDefEqProofs only [↓ops_cons, ↓g_unOp, Nat.reduceLT, ev_tab, upd_eq, u_not, Bool.not_true, Option.map_some, ↓ops_nil, ↓w_cond, ↓w_seq, ↓w_region, ↓g_assign, ↓w_ret, ev_const, of_bool, retP_1, res_tmp, onS_some, ↓w_skip, of_int, ↓g_load, ne_eq, Nat.reduceEqDiff, not_false_eq_true, upd_ne, rd_def, tyOk32, agg32, cells32, y8, rd_aggc, Nat.zero_add, List.length_cons, List.length_nil, Nat.reduceAdd, Nat.le_refl, List.drop_zero, List.take_succ_cons, List.take_zero, if_true, ↓g_move, onB_false]
      refine call1S (by simp -implicitDefEqProofs only [List.map_cons, Nat.reduceLT, ev_tab, ne_eq, Nat.reduceEqDiff, not_false_eq_true, upd_ne, upd_eq, List.map_nil] <;> rfl) l1 ?_
      simp -implicitDefEqProofs only [↓ops_cons, ↓g_assign, ↓ops_nil, ↓w_seq, ↓w_region, Nat.reduceLT, ev_tab, upd_eq, ↓g_move, ne_eq, Nat.reduceEqDiff, not_false_eq_true, upd_ne]
      refine call1S (by simp -implicitDefEqProofs only [List.map_cons, Nat.reduceLT, ev_tab, ne_eq, Nat.reduceEqDiff, not_false_eq_true, upd_ne, upd_eq, List.map_nil] <;> rfl) q0 ?_
      simp -implicitDefEqProofs only [↓ops_cons, ↓g_assign, ↓ops_nil, ↓w_seq, ↓w_region, Nat.reduceLT, ev_tab, upd_eq, ↓g_move, ↓g_binOp, ev_const, of_int, b_lss, kn, decide_false, onS_some, yielded_tab, dstAt_s, dstAt_0, ybv_some, boolOf_b, ↓g_guard_t, ↓g_load, ne_eq, Nat.reduceEqDiff, not_false_eq_true, upd_ne, rd_def, tyOk32, agg32, cells32, k9, rd_aggc, Nat.zero_add, List.length_cons, List.length_nil, Nat.reduceAdd, Nat.le_refl, List.drop_zero, List.take_succ_cons, List.take_zero, if_true, w9]
      refine call1S (by simp -implicitDefEqProofs only [List.map_cons, Nat.reduceLT, ev_tab, ne_eq, Nat.reduceEqDiff, not_false_eq_true, upd_ne, upd_eq, List.map_nil] <;> rfl) m1 ?_
      simp -implicitDefEqProofs only [↓ops_cons, yielded_tab, dstAt_s, dstAt_0, Nat.reduceLT, ybv_some, ne_eq, Nat.reduceEqDiff, not_false_eq_true, upd_ne, upd_eq, boolOf_b, ↓g_guard_t, ↓g_unOp, ev_tab, u_not, Bool.not_true, Option.map_some, ↓g_pick, ev_const, of_bool, pick_b, Bool.false_eq_true, if_false, ↓ops_nil, ↓w_cond, ↓w_seq, ↓w_region, ↓g_assign, ↓w_ret, retP_1, res_tmp, onS_some, ↓w_skip, of_int, ↓g_load, rd_def, tyOk32, agg32, cells32, m2.at k9, rd_aggc, Nat.zero_add, List.length_cons, List.length_nil, Nat.reduceAdd, Nat.le_refl, List.drop_zero, List.take_succ_cons, List.take_zero, if_true, ↓g_move, onB_false]
      refine call1S (by simp -implicitDefEqProofs only [List.map_cons, Nat.reduceLT, ev_tab, ne_eq, Nat.reduceEqDiff, not_false_eq_true, upd_ne, upd_eq, List.map_nil] <;> rfl) o1 ?_
      simp -implicitDefEqProofs only [↓ops_cons, ↓g_assign, ↓ops_nil, ↓w_seq, ↓w_region, Nat.reduceLT, ev_tab, upd_eq, ev_const, of_int, ↓g_load, ne_eq, Nat.reduceEqDiff, not_false_eq_true, upd_ne, rd_def, tyOk32, agg32, cells32, k11, rd_aggc, Nat.zero_add, List.length_cons, List.length_nil, Nat.reduceAdd, Nat.le_refl, List.drop_zero, List.take_succ_cons, List.take_zero, if_true, ↓g_move, onS_some]
      refine call1S (by simp -implicitDefEqProofs only [List.map_cons, Nat.reduceLT, ev_tab, ne_eq, Nat.reduceEqDiff, not_false_eq_true, upd_ne, upd_eq, List.map_nil] <;> rfl) r1 ?_
      simp -implicitDefEqProofs only [↓ops_cons, ↓g_assign, ↓ops_nil, ↓w_seq, ↓w_region, Nat.reduceLT, ev_tab, upd_eq, ↓g_move, ↓g_binOp, ev_const, of_int, b_lss, km, decide_false, ↓w_cond, ↓w_ret, of_bool, retP_1, res_tmp, onS_some, ↓w_skip, ne_eq, Nat.reduceEqDiff, not_false_eq_true, upd_ne, b_neq, decide_true, Bool.not_true, ↓g_load, rd_def, tyOk29, agg29, cells29, r2.at a11, rd_aggc, Nat.zero_add, List.length_cons, List.length_nil, Nat.reduceAdd, Nat.le_refl, List.drop_zero, List.take_succ_cons, List.take_zero, if_true, onB_false]
      refine call1S (by simp -implicitDefEqProofs only [List.map_cons, Nat.reduceLT, ev_tab, upd_eq, List.map_nil] <;> rfl) s1 ?_
      simp -implicitDefEqProofs only [↓ops_cons, ↓g_move, Nat.reduceLT, ev_tab, ne_eq, Nat.reduceEqDiff, not_false_eq_true, upd_ne, par1]
      refine call1S (by simp -implicitDefEqProofs only [List.map_cons, Nat.reduceLT, ev_tab, upd_eq, List.map_nil] <;> rfl) i14 ?_
      simp -implicitDefEqProofs only [↓ops_cons]
      refine call1S (by simp -implicitDefEqProofs only [List.map_cons, Nat.reduceLT, ev_tab, ne_eq, Nat.reduceEqDiff, not_false_eq_true, upd_ne, upd_eq, List.map_nil] <;> rfl) t1 ?_
      simp -implicitDefEqProofs only [↓ops_cons, ↓g_alloc, zero32, Option.map_some, ↓g_store, Nat.reduceLT, ev_tab, upd_eq, ne_eq, Nat.reduceEqDiff, not_false_eq_true, upd_ne, ↓ops_nil, ↓w_seq, ↓w_region, ↓g_load, rd_def, tyOk32, agg32, cells32, alK_some, List.all_cons, one_nil, one_int, List.all_nil, Bool.and_self, wr_def, hap_0, List.getElem?_cons_zero, wr_c, cells_agg, List.length_cons, List.length_nil, Nat.zero_add, Nat.reduceAdd, Nat.le_refl, one_sl, v15o, and_self, ovr_fm, ovr_fn, hset_0, List.set_cons_zero, if_true, onS_some, rd_aggc, List.drop_zero, List.take_succ_cons, List.take_zero, true_and]
      rw [← hJ]
      simp -implicitDefEqProofs only [w15, rd_aggc, Nat.zero_add, List.length_cons, List.length_nil, Nat.reduceAdd, Nat.le_refl, List.drop_zero, List.take_succ_cons, List.take_zero, if_true, onS_some]
      refine call1S (by simp -implicitDefEqProofs only [List.map_cons, Nat.reduceLT, ev_tab, ne_eq, Nat.reduceEqDiff, not_false_eq_true, upd_ne, upd_eq, List.map_nil] <;> rfl) u1 ?_
      simp -implicitDefEqProofs only [↓ops_cons, ↓g_unOp, Nat.reduceLT, ev_tab, upd_eq, u_not, Bool.not_true, Option.map_some, ↓ops_nil, ↓w_cond, ↓w_seq, ↓w_region, ↓g_assign, ↓w_ret, ev_const, of_bool, retP_1, res_tmp, onS_some, ↓w_skip, of_int, ↓g_load, ne_eq, Nat.reduceEqDiff, not_false_eq_true, upd_ne, rd_def, tyOk32, agg32, cells32, k16, rd_aggc, Nat.zero_add, List.length_cons, List.length_nil, Nat.reduceAdd, Nat.le_refl, List.drop_zero, List.take_succ_cons, List.take_zero, if_true, ↓g_move, onB_false]
      refine call1S (by simp -implicitDefEqProofs only [List.map_cons, Nat.reduceLT, ev_tab, ne_eq, Nat.reduceEqDiff, not_false_eq_true, upd_ne, upd_eq, List.map_nil] <;> rfl) b1 ?_
      simp -implicitDefEqProofs only [↓ops_cons, ↓g_assign, ↓ops_nil, ↓w_seq, ↓w_region, Nat.reduceLT, ev_tab, upd_eq, ↓g_move, ↓g_binOp, ev_const, of_int, b_lss, km, decide_false, ↓w_cond, ↓w_ret, of_bool, retP_1, res_tmp, onS_some, ↓w_skip, ne_eq, Nat.reduceEqDiff, not_false_eq_true, upd_ne, b_neq, decide_true, Bool.not_true, onB_false]
  obtain ⟨v, H', h1, rfl⟩ := key
  exact ⟨H', h1⟩
end Go.Proofs.Ytcjjcpdfnndenaa.Sim

