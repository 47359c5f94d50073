/- FlightOf: the law returns true. -/
import Derived.Test.YtcjjcpdfnndenaaFFlP
import Derived.Test.YtcjjcpdfnndenaaFFlOf
namespace Go.Proofs.Ytcjjcpdfnndenaa.Sim
open Go
set_option maxRecDepth 100000
set_option maxHeartbeats 40000000
set_option linter.unusedSimpArgs false
set_option linter.unusedVariables false
theorem Own.lt' {H : AHeap} {y : AV} {l : List Int} (h : Own H y l) {r o n k : Nat} (e : y = .sl r o n k) : r < H.length := by
  rcases h with ⟨rfl, _⟩ | ⟨r', rfl, h⟩
  · cases e
  · injection e with e1
    subst e1
    exact at_lt h
theorem lawFnExactFlightOf (H : AHeap) (x : AV) (l : List Int) (hl : l.length ≤ 9223372036854775807) (hx : IsL H x .i64 l) : ∃ H', Sound Try.prog 10 [x] H (.sc (.bool true)) H' := by
  have key : ∃ v H', Sound Try.prog 10 [x] H v H' ∧ v = .sc (.bool true) := by
    refine Sound.runP (args := [x]) 66 [.tmp 2] Try.func10 rfl rfl rfl rfl (by simp) (fun v Z => v = .sc (.bool true)) ?_
    have lz := fun e => hx.len e
    by_cases hlg : (1048576 : Int) < l.length
    · simp -implicitDefEqProofs only [↓w_seq, ↓w_region, ↓ops_cons, ↓g_assign, ↓ops_nil, ev_const, of_bool, ↓g_move, ↓g_len, Try.underlying22, Nat.reduceLT, ev_tab, ne_eq, reduceCtorEq, not_false_eq_true, upd_ne, par0, upd_eq, lz, ↓g_binOp, of_int, ↓w_cond, ↓w_ret, retP_1, res_tmp, onS_some, ↓w_skip, b_gtr, hlg, decide_true, onB_true]
    have hl2 : l.length ≤ 100000000 := by omega
    have hsl := (flOf_ok l).2
    -- the reference
    have i1 := toIntsS hx (by omega)
    obtain ⟨L1, hL1⟩ : ∃ C : Reg, C = ⟨ints .i64 l, true, true⟩ := ⟨_, rfl⟩
    have x1 := Ext.more H [L1]
    have l1 : (H ++ [L1])[H.length]? = some ⟨ints .i64 l, true, true⟩ := by rw [hL1]; exact at_end _ _
    rw [← hL1] at i1
    obtain ⟨p, q, Z2, c1, c2, c3, c4, c5, c6⟩ := flOfS (IsL.mk l1) (by omega)
    have hS := fun (G : AHeap) (p : Nat) (h : G[p]? = some ⟨ints .i64 l, true, true⟩) => flOfI (IsL.mk h) hl2
    generalize flOf l = s at *
    obtain ⟨W, hW⟩ : ∃ C : Reg, C = ⟨[.sl p 0 s.length 1, .sl q 0 0 1, .sc (.int .i64 0)], true, true⟩ := ⟨_, rfl⟩
    have x2 := Ext.more Z2 [W]
    have w2 : (Z2 ++ [W])[Z2.length]? = some ⟨[.sl p 0 s.length 1, .sl q 0 0 1, .sc (.int .i64 0)], true, true⟩ := by rw [← hW]; exact at_end Z2 W
    have e2 := (x1.trans c2).trans x2
    -- what the program is given
    have i2 := toIntsS (e2.isL hx) (by omega)
    obtain ⟨Li, hLi⟩ : ∃ C : Reg, C = ⟨ints .i64 l, true, true⟩ := ⟨_, rfl⟩
    have x3 := Ext.more (Z2 ++ [W]) [Li]
    have l3 : (Z2 ++ [W] ++ [Li])[(Z2 ++ [W]).length]? = some ⟨ints .i64 l, true, true⟩ := by rw [hLi]; exact at_end _ _
    rw [← hLi] at i2
    obtain ⟨v5, Z5, g1, g2, g7, g8⟩ := hS (Z2 ++ [W] ++ [Li]) _ l3
    have ln2 : (Z2 ++ [W]).length = Z2.length + 1 := by rw [List.length_append]; rfl
    rw [ln2] at i2 g1 l3
    have v5o := g7.isL.one
    obtain ⟨K, hK⟩ : ∃ C : Reg, C = ⟨[v5, .sc (.slice none 0 0), .sc (.int .i64 0)], true, true⟩ := ⟨_, rfl⟩
    have x5 := Ext.more Z5 [K]
    have k5 : (Z5 ++ [K])[Z5.length]? = some ⟨[v5, .sc (.slice none 0 0), .sc (.int .i64 0)], true, true⟩ := by rw [← hK]; exact at_end Z5 K
    have o5 := (x3.trans g2).trans x5
    have e5 := e2.trans o5
    obtain ⟨Z6, h1, h2⟩ := eqFlightS 0 (g7.ext x5).isL (IsL.nil _ _) (IsL.mk (o5.at (x2.at c5))) (IsL.mk (o5.at (x2.at c6))) (by omega) (by simp)
    -- what is there before the marks
    have o8 := o5.trans h2
    have e8 := e2.trans o8
    have ie := toIntsS (e8.isL hx) (by omega)
    obtain ⟨Le, hLe⟩ : ∃ C : Reg, C = ⟨ints .i64 l, true, true⟩ := ⟨_, rfl⟩
    have xe := Ext.more Z6 [Le]
    have le : (Z6 ++ [Le])[Z6.length]? = some ⟨ints .i64 l, true, true⟩ := by rw [hLe]; exact at_end _ _
    rw [← hLe] at ie
    have lg8 : (Z6 ++ [Le])[Z2.length + 1]? = some ⟨ints .i64 l, true, true⟩ := ((g2.trans (x5.trans h2)).trans xe).at l3
    have E0 := eqS (IsL.mk lg8) (IsL.mk le) (by omega) (by omega)
    have n8 : (Z6 ++ [Le]).length = Z6.length + 1 := by rw [List.length_append]; rfl
    have w8 := xe.at (o8.at w2)
    have k8 := xe.at (h2.at k5)
    have k6 := h2.at k5
    have p8 := xe.at (o8.at (x2.at c5))
    have q8 := xe.at (o8.at (x2.at c6))
    have g78 := (g7.ext (x5.trans h2)).ext xe
    have e9 := e8.trans xe
    have z2 : H.length + 1 ≤ p := by rw [List.length_append] at c3; exact c3
    have z3 : q < Z2.length := at_lt c6
    have z4 : Z5.length < Z6.length := at_lt k6
    have z5 : Z2.length + 2 ≤ Z5.length := by have := g2.1; rw [List.length_append, ln2] at this; exact this
    have z10 : ∀ r o n k, v5 = .sl r o n k → Z2.length + 2 ≤ r ∧ r < Z5.length := fun r o n k e => ⟨by have := g8 r o n k e; rw [List.length_append, ln2] at this; exact this, g7.lt' e⟩
    generalize Z6 ++ [Le] = Y8 at *
    -- marks in the list
    have q0 := markSk 1 (by omega) lg8 (by omega)
    obtain ⟨X9, hX9⟩ : ∃ X, X = Y8.set (Z2.length + 1) ⟨ints .i64 (marked 1 l.length), true, true⟩ := ⟨_, rfl⟩
    rw [← hX9] at q0
    have keepX : ∀ i, i ≠ Z2.length + 1 → X9[i]? = Y8[i]? := fun i h3 => by
      rw [hX9, List.getElem?_set_ne (fun e => h3 e.symm)]
    have nX : X9.length = Z6.length + 1 := by rw [hX9, List.length_set, n8]
    have w9 := (keepX Z2.length (by omega)).trans w8
    have k9 := (keepX Z5.length (by omega)).trans k8
    have p9 := (keepX p (by omega)).trans p8
    have q9 := (keepX q (by omega)).trans q8
    have g79 : Own X9 v5 s := g78.keep fun r o n k e => keepX r (by have := z10 r o n k e; omega)
    obtain ⟨Z10, m1, m2⟩ := eqFlightS 0 g79.isL (IsL.nil _ _) (IsL.mk p9) (IsL.mk q9) (by omega) (by simp)
    have z11 := m2.1
    -- marks in what was answered
    obtain ⟨Z11, o1, o2, o3, o4, o6⟩ := markFlightS 0 (g79.ext m2) (g := []) (y := .sc (.slice none 0 0)) (.inl ⟨rfl, rfl⟩) (by omega) (by simp) (fun r o n k e => by cases e)
    have ap5 : ∀ i, i < Z2.length + 2 ∨ Z5.length ≤ i → Apart v5 i := fun i hi r o n k e => by
      have := z10 r o n k e
      omega
    have keep11 : ∀ i, i < Z6.length + 1 → i < Z2.length + 1 ∨ Z5.length ≤ i → Z11[i]? = Y8[i]? := fun i hi h => ((o6 i (by omega) (ap5 i (by omega)) (Apart.nil i)).trans (m2.2 i (by omega))).trans (keepX i (by omega))
    have w11 := (keep11 Z2.length (by omega) (by omega)).trans w8
    have k11 := (keep11 Z5.length (by omega) (by omega)).trans k8
    have p11 := (keep11 p (by omega) (by omega)).trans p8
    have q11 := (keep11 q (by omega) (by omega)).trans q8
    have e11 : Ext H Z11 := ⟨by have := e9.1; omega, fun i hi => (keep11 i (by omega) (by omega)).trans (e9.2 i hi)⟩
    obtain ⟨Z13, r1, r2⟩ := heldFlightS 0 o2.isL o3.isL (by omega) (by simp)
    have e13 := e11.trans r2
    -- once more
    have i14 := toIntsS (e13.isL hx) (by omega)
    have x14 := Ext.more Z13 [⟨ints .i64 l, true, true⟩]
    obtain ⟨v15, Z15, t1, t2, t7, t8⟩ := hS (Z13 ++ [⟨ints .i64 l, true, true⟩]) Z13.length (at_end _ _)
    have v15o := t7.isL.one
    obtain ⟨J, hJ⟩ : ∃ C : Reg, C = ⟨[v15, .sc (.slice none 0 0), .sc (.int .i64 0)], true, true⟩ := ⟨_, rfl⟩
    have x15 := Ext.more Z15 [J]
    have l15 := ((r2.trans x14).trans t2).trans x15
    have w15 := l15.at w11
    have k15 := l15.at k11
    have j15 : (Z15 ++ [J])[Z15.length]? = some ⟨[v15, .sc (.slice none 0 0), .sc (.int .i64 0)], true, true⟩ := by rw [← hJ]; exact at_end Z15 J
    obtain ⟨Z16, u1, u2⟩ := eqFlightS 0 (t7.ext x15).isL (IsL.nil _ _) (IsL.mk (l15.at p11)) (IsL.mk (l15.at q11)) (by omega) (by simp)
    have k16 := u2.at k15
    obtain ⟨Z17, b1, b2⟩ := heldFlightS 0 (o2.ext (l15.trans u2)).isL (o3.ext (l15.trans u2)).isL (by omega) (by simp)
    simp only [decide_true] at E0
    have kn : ¬ (1 : Int) + l.length < 0 := by omega
    have km : ¬ (1 : Int) + s.length < 0 := by omega
    simp only [List.length_nil, Int.cast_ofNat_Int, Int.add_zero] at o1 r1 b1
    unfold flt at c1 g1 h1 m1 o1 r1 t1 u1 b1
    simp -implicitDefEqProofs only [↓w_seq, ↓w_region, ↓ops_cons, ↓g_assign, ↓ops_nil, ev_const, of_bool, ↓g_move, ↓g_len, Try.underlying22, Nat.reduceLT, ev_tab, ne_eq, reduceCtorEq, not_false_eq_true, upd_ne, par0, upd_eq, lz, ↓g_binOp, of_int, ↓w_cond, ↓w_ret, retP_1, res_tmp, onS_some, ↓w_skip, b_gtr, hlg, decide_false, onB_false]
    refine call1S (by simp -implicitDefEqProofs only [List.map_cons, Nat.reduceLT, ev_tab, upd_eq, List.map_nil] <;> rfl) i1 ?_
    simp -implicitDefEqProofs only [↓ops_cons]
    refine call1S (by simp -implicitDefEqProofs only [List.map_cons, Nat.reduceLT, ev_tab, upd_eq, List.map_nil] <;> rfl) c1 ?_
    simp -implicitDefEqProofs only [↓ops_cons, ↓g_alloc, zero32, Option.map_some, ↓g_store, Nat.reduceLT, ev_tab, upd_eq, ne_eq, Nat.reduceEqDiff, not_false_eq_true, upd_ne, ↓ops_nil, ↓w_seq, ↓w_region, ↓g_move, reduceCtorEq, par0, alK_some, List.all_cons, one_nil, one_int, List.all_nil, Bool.and_self, wr_def, tyOk32, cells32, hap_0, List.getElem?_cons_zero, wr_c, cells_agg, List.length_cons, List.length_nil, Nat.zero_add, Nat.reduceAdd, Nat.le_refl, one_sl, and_self, ovr_fm, ovr_fn, hset_0, List.set_cons_zero, if_true, onS_some, true_and]
    rw [← hW]
    refine call1S (by simp -implicitDefEqProofs only [List.map_cons, Nat.reduceLT, ev_tab, upd_eq, List.map_nil] <;> rfl) i2 ?_
    simp -implicitDefEqProofs only [↓ops_cons, ↓g_assign, ↓ops_nil, ↓w_seq, ↓w_region, Nat.reduceLT, ev_tab, upd_eq, ↓g_move]
    refine call1S (by simp -implicitDefEqProofs only [List.map_cons, Nat.reduceLT, ev_tab, upd_eq, List.map_nil] <;> rfl) g1 ?_
    simp -implicitDefEqProofs only [↓ops_cons, ↓g_alloc, zero32, Option.map_some, ↓g_store, Nat.reduceLT, ev_tab, upd_eq, ne_eq, Nat.reduceEqDiff, not_false_eq_true, upd_ne, ↓ops_nil, ↓w_seq, ↓w_region, ↓g_load, rd_def, tyOk32, agg32, cells32, alK_some, List.all_cons, one_nil, one_int, List.all_nil, Bool.and_self, wr_def, hap_0, List.getElem?_cons_zero, wr_c, cells_agg, List.length_cons, List.length_nil, Nat.zero_add, Nat.reduceAdd, Nat.le_refl, v5o, and_self, ovr_fm, ovr_fn, hset_0, List.set_cons_zero, if_true, onS_some, rd_aggc, List.drop_zero, List.take_succ_cons, List.take_zero, true_and]
    rw [← hK]
    simp -implicitDefEqProofs only [o5.at w2, rd_aggc, Nat.zero_add, List.length_cons, List.length_nil, Nat.reduceAdd, Nat.le_refl, List.drop_zero, List.take_succ_cons, List.take_zero, if_true, onS_some]
    refine call1S (by simp -implicitDefEqProofs only [List.map_cons, Nat.reduceLT, ev_tab, ne_eq, Nat.reduceEqDiff, not_false_eq_true, upd_ne, upd_eq, List.map_nil, List.length_nil] <;> rfl) h1 ?_
    simp -implicitDefEqProofs only [↓ops_cons, ↓g_unOp, Nat.reduceLT, ev_tab, upd_eq, u_not, Bool.not_true, Option.map_some, ↓ops_nil, ↓w_cond, ↓w_seq, ↓w_region, ↓g_assign, ↓w_ret, ev_const, of_bool, retP_1, res_tmp, onS_some, ↓w_skip, ↓g_move, ne_eq, Nat.reduceEqDiff, not_false_eq_true, upd_ne, reduceCtorEq, par0, onB_false]
    refine call1S (by simp -implicitDefEqProofs only [List.map_cons, Nat.reduceLT, ev_tab, upd_eq, List.map_nil] <;> rfl) ie ?_
    simp -implicitDefEqProofs only [↓ops_cons]
    refine call1S (by simp -implicitDefEqProofs only [List.map_cons, Nat.reduceLT, ev_tab, ne_eq, Nat.reduceEqDiff, not_false_eq_true, upd_ne, upd_eq, List.map_nil] <;> rfl) E0 ?_
    simp -implicitDefEqProofs only [↓ops_cons, ↓g_unOp, Nat.reduceLT, ev_tab, upd_eq, u_not, Bool.not_true, Option.map_some, ↓ops_nil, ↓w_cond, ↓w_seq, ↓w_region, ↓g_assign, ↓w_ret, ev_const, of_bool, retP_1, res_tmp, onS_some, ↓w_skip, of_int, ↓g_move, ne_eq, Nat.reduceEqDiff, not_false_eq_true, upd_ne, onB_false]
    refine call1S (by simp -implicitDefEqProofs only [List.map_cons, Nat.reduceLT, ev_tab, ne_eq, Nat.reduceEqDiff, not_false_eq_true, upd_ne, upd_eq, List.map_nil] <;> rfl) q0 ?_
    simp -implicitDefEqProofs only [↓ops_cons, ↓g_assign, ↓ops_nil, ↓w_seq, ↓w_region, Nat.reduceLT, ev_tab, upd_eq, ↓g_move, ↓g_binOp, ev_const, of_int, b_lss, kn, decide_false, onS_some, yielded_tab, dstAt_s, dstAt_0, ybv_some, boolOf_b, ↓g_guard_t, ↓g_load, ne_eq, Nat.reduceEqDiff, not_false_eq_true, upd_ne, rd_def, tyOk32, agg32, cells32, k9, rd_aggc, Nat.zero_add, List.length_cons, List.length_nil, Nat.reduceAdd, Nat.le_refl, List.drop_zero, List.take_succ_cons, List.take_zero, if_true, w9]
    refine call1S (by simp -implicitDefEqProofs only [List.map_cons, Nat.reduceLT, ev_tab, ne_eq, Nat.reduceEqDiff, not_false_eq_true, upd_ne, upd_eq, List.map_nil, List.length_nil] <;> rfl) m1 ?_
    simp -implicitDefEqProofs only [↓ops_cons, yielded_tab, dstAt_s, dstAt_0, Nat.reduceLT, ybv_some, ne_eq, Nat.reduceEqDiff, not_false_eq_true, upd_ne, upd_eq, boolOf_b, ↓g_guard_t, ↓g_unOp, ev_tab, u_not, Bool.not_true, Option.map_some, ↓g_pick, ev_const, of_bool, pick_b, Bool.false_eq_true, if_false, ↓ops_nil, ↓w_cond, ↓w_seq, ↓w_region, ↓g_assign, ↓w_ret, retP_1, res_tmp, onS_some, ↓w_skip, of_int, ↓g_load, rd_def, tyOk32, agg32, cells32, m2.at k9, rd_aggc, Nat.zero_add, List.length_cons, List.length_nil, Nat.reduceAdd, Nat.le_refl, List.drop_zero, List.take_succ_cons, List.take_zero, if_true, ↓g_move, onB_false]
    refine call1S (by simp -implicitDefEqProofs only [List.map_cons, Nat.reduceLT, ev_tab, ne_eq, Nat.reduceEqDiff, not_false_eq_true, upd_ne, upd_eq, List.map_nil] <;> rfl) o1 ?_
    simp -implicitDefEqProofs only [↓ops_cons, ↓g_assign, ↓ops_nil, ↓w_seq, ↓w_region, Nat.reduceLT, ev_tab, upd_eq, ev_const, of_int, ↓g_load, ne_eq, Nat.reduceEqDiff, not_false_eq_true, upd_ne, rd_def, tyOk32, agg32, cells32, k11, rd_aggc, Nat.zero_add, List.length_cons, List.length_nil, Nat.reduceAdd, Nat.le_refl, List.drop_zero, List.take_succ_cons, List.take_zero, if_true, ↓g_move, onS_some]
    refine call1S (by simp -implicitDefEqProofs only [List.map_cons, Nat.reduceLT, ev_tab, ne_eq, Nat.reduceEqDiff, not_false_eq_true, upd_ne, upd_eq, List.map_nil] <;> rfl) r1 ?_
    simp -implicitDefEqProofs only [↓ops_cons, ↓g_assign, ↓ops_nil, ↓w_seq, ↓w_region, Nat.reduceLT, ev_tab, upd_eq, ↓g_move, ↓g_binOp, ev_const, of_int, b_lss, km, decide_false, ↓w_cond, ↓w_ret, of_bool, retP_1, res_tmp, onS_some, ↓w_skip, ne_eq, Nat.reduceEqDiff, not_false_eq_true, upd_ne, b_neq, decide_true, Bool.not_true, reduceCtorEq, par0, onB_false]
    refine call1S (by simp -implicitDefEqProofs only [List.map_cons, Nat.reduceLT, ev_tab, upd_eq, List.map_nil] <;> rfl) i14 ?_
    simp -implicitDefEqProofs only [↓ops_cons]
    refine call1S (by simp -implicitDefEqProofs only [List.map_cons, Nat.reduceLT, ev_tab, upd_eq, List.map_nil] <;> rfl) t1 ?_
    simp -implicitDefEqProofs only [↓ops_cons, ↓g_alloc, zero32, Option.map_some, ↓g_store, Nat.reduceLT, ev_tab, upd_eq, ne_eq, Nat.reduceEqDiff, not_false_eq_true, upd_ne, ↓ops_nil, ↓w_seq, ↓w_region, ↓g_load, rd_def, tyOk32, agg32, cells32, alK_some, List.all_cons, one_nil, one_int, List.all_nil, Bool.and_self, wr_def, hap_0, List.getElem?_cons_zero, wr_c, cells_agg, List.length_cons, List.length_nil, Nat.zero_add, Nat.reduceAdd, Nat.le_refl, v15o, and_self, ovr_fm, ovr_fn, hset_0, List.set_cons_zero, if_true, onS_some, rd_aggc, List.drop_zero, List.take_succ_cons, List.take_zero, true_and]
    rw [← hJ]
    simp -implicitDefEqProofs only [w15, rd_aggc, Nat.zero_add, List.length_cons, List.length_nil, Nat.reduceAdd, Nat.le_refl, List.drop_zero, List.take_succ_cons, List.take_zero, if_true, onS_some]
    refine call1S (by simp -implicitDefEqProofs only [List.map_cons, Nat.reduceLT, ev_tab, ne_eq, Nat.reduceEqDiff, not_false_eq_true, upd_ne, upd_eq, List.map_nil, List.length_nil] <;> rfl) u1 ?_
    simp -implicitDefEqProofs only [↓ops_cons, ↓g_unOp, Nat.reduceLT, ev_tab, upd_eq, u_not, Bool.not_true, Option.map_some, ↓ops_nil, ↓w_cond, ↓w_seq, ↓w_region, ↓g_assign, ↓w_ret, ev_const, of_bool, retP_1, res_tmp, onS_some, ↓w_skip, of_int, ↓g_load, ne_eq, Nat.reduceEqDiff, not_false_eq_true, upd_ne, rd_def, tyOk32, agg32, cells32, k16, rd_aggc, Nat.zero_add, List.length_cons, List.length_nil, Nat.reduceAdd, Nat.le_refl, List.drop_zero, List.take_succ_cons, List.take_zero, if_true, ↓g_move, onB_false]
    refine call1S (by simp -implicitDefEqProofs only [List.map_cons, Nat.reduceLT, ev_tab, ne_eq, Nat.reduceEqDiff, not_false_eq_true, upd_ne, upd_eq, List.map_nil] <;> rfl) b1 ?_
    simp -implicitDefEqProofs only [↓ops_cons, ↓g_assign, ↓ops_nil, ↓w_seq, ↓w_region, Nat.reduceLT, ev_tab, upd_eq, ↓g_move, ↓g_binOp, ev_const, of_int, b_lss, km, decide_false, ↓w_cond, ↓w_ret, of_bool, retP_1, res_tmp, onS_some, ↓w_skip, ne_eq, Nat.reduceEqDiff, not_false_eq_true, upd_ne, b_neq, decide_true, Bool.not_true, onB_false]
  obtain ⟨v, H', h1, rfl⟩ := key
  exact ⟨H', h1⟩
end Go.Proofs.Ytcjjcpdfnndenaa.Sim

