/- BoxOf: the law returns true. -/
import Derived.Test.YtheeehbaholjmaaFBoxOf
import Derived.Test.YtheeehbaholjmaaFBoxLaw
namespace Go.Proofs.Ytheeehbaholjmaa.Sim
open Go
set_option maxRecDepth 100000
set_option maxHeartbeats 40000000
set_option linter.unusedSimpArgs false
set_option linter.unusedVariables false
theorem lawFnExactBoxOf (i t f : Int) (z : ByteArray) (hz : z.size ≤ 9223372036854775807) : Fn Try.prog 9 [.agg [.sc (.int .i64 i), .sc (.int .i64 t), .sc (.int .i64 f), .sc (.string z)]] (.sc (.bool true)) := by
  suffices h : ∀ H : AHeap, ∃ v Z, Sound Try.prog 9 [.agg [.sc (.int .i64 i), .sc (.int .i64 t), .sc (.int .i64 f), .sc (.string z)]] H v Z ∧ v = .sc (.bool true) by
    obtain ⟨v, Z, h1, rfl⟩ := h []
    exact Fn.of (flats_cons (prt_flat _ _ _ _) flats_nil) (.sc _) h1
  intro H
  refine Sound.runP (args := [.agg [.sc (.int .i64 i), .sc (.int .i64 t), .sc (.int .i64 f), .sc (.string z)]]) 72 [.tmp 2] Try.func9 rfl rfl rfl rfl (by simp) (fun v Z => v = .sc (.bool true)) ?_
  have sz := szPartS i t f z hz
  have tp := toPartS i t f z
  unfold prt at sz tp
  simp -implicitDefEqProofs only [↓w_seq, ↓w_region, ↓ops_cons, ↓g_box, Nat.reduceLT, ev_tab, par0, cells_agg, ↓g_assign, ↓ops_nil, ev_const, of_bool, of_int, ↓g_load, ne_eq, Nat.reduceEqDiff, not_false_eq_true, upd_ne, upd_eq, ↓g_move, alK_some, List.all_cons, one_int, one_str, List.all_nil, Bool.and_self, rd_def, tyOk23, agg23, cells23, hap_0, List.getElem?_cons_zero, rd_aggc, Nat.zero_add, List.length_cons, List.length_nil, Nat.reduceAdd, Nat.le_refl, List.drop_zero, List.take_succ_cons, List.take_zero, if_true, onS_some, true_and]
  refine call1 (by simp -implicitDefEqProofs only [List.map_cons, Nat.reduceLT, ev_tab, ne_eq, Nat.reduceEqDiff, not_false_eq_true, upd_ne, upd_eq, List.map_nil] <;> rfl) sz ?_
  by_cases h : 1048576 - (z.size : Int) < 0
  · simp -implicitDefEqProofs only [↓ops_cons, ↓g_assign, ↓ops_nil, ↓w_seq, ↓w_region, h, Int.reduceNeg, if_true, Nat.reduceLT, ev_tab, upd_eq, ↓g_move, ↓g_binOp, ev_const, of_int, b_lss, Int.reduceLT, decide_true, ↓w_cond, ↓w_ret, of_bool, retP_1, res_tmp, onS_some, ↓w_skip, ↓g_load, ne_eq, Nat.reduceEqDiff, not_false_eq_true, upd_ne, rd_def, tyOk23, agg23, cells23, at_end, rd_aggc, Nat.zero_add, List.length_cons, List.length_nil, Nat.reduceAdd, Nat.le_refl, List.drop_zero, List.take_succ_cons, List.take_zero, onB_true]
    try rfl
  · have h2 : ¬ (1048576 - (z.size : Int) < 0) := h
    obtain ⟨A, hA⟩ : ∃ A : Reg, A = ⟨[.sc (.int .i64 i), .sc (.int .i64 t), .sc (.int .i64 f), .sc (.string z)], true, true⟩ := ⟨_, rfl⟩
    have a0 := hap_0 H [A]
    by_cases hp : okPc i t f z
    · obtain ⟨⟨i0, _⟩, ⟨t0, t1⟩, f0, _⟩ := id hp
      obtain ⟨t, rfl⟩ := Int.eq_ofNat_of_zero_le t0
      obtain ⟨f, rfl⟩ := Int.eq_ofNat_of_zero_le f0
      have hl := bo2_len f t z
      obtain ⟨q1, Z1, b1, b2, b3, b4⟩ := boxOfS_ok (H ++ [A]) i t f z hp (by omega)
      have a1 := b2.at a0
      obtain ⟨C1, hC1⟩ : ∃ C : Reg, C = ⟨[.sc (.int .i64 i), .sc (.int .i64 t), .sc (.string (bo1 f t z)), .sl q1 0 t 1], true, true⟩ := ⟨_, rfl⟩
      have a1' := (Ext.more Z1 [C1]).at a1
      have c1 := at_end Z1 C1
      have b4' := (Ext.more Z1 [C1]).at b4
      obtain ⟨q2, Z2, d1, d2, d3, d4⟩ := boxOfI_ok (Z1 ++ [C1]) i t f z hp (by omega)
      have a2 := d2.at a1'
      have c2 := d2.at c1
      have b5 := d2.at b4'
      obtain ⟨C2, hC2⟩ : ∃ C : Reg, C = ⟨[.sc (.int .i64 i), .sc (.int .i64 t), .sc (.string (bo1 f t z)), .sl q2 0 t 1], true, true⟩ := ⟨_, rfl⟩
      have x2 := Ext.more Z2 [C2]
      have a2' := x2.at a2
      have c2' := x2.at c2
      have g2 := at_end Z2 C2
      have b5' := x2.at b5
      have d4' := x2.at d4
      obtain ⟨Z3, e1, e2⟩ := eqBoxS (IsB.at d4' hl) (IsB.at b5' hl) (by rw [hl]; omega) i t (bo1 f t z)
      have a3 := e2.at a2'
      have c3 := e2.at c2'
      have g3 := e2.at g2
      have b6 := e2.at b5'
      have d5 := e2.at d4'
      obtain ⟨Z4, m1, m2, m3, m4⟩ := markBoxS d5 hl (by omega) i t (bo1 f t z)
      have q1lt : q1 < Z1.length := at_lt b4
      have q2ge : Z1.length + 1 ≤ q2 := by rw [List.length_append] at d3; exact d3
      have q2lt : q2 < Z2.length := at_lt d4
      have hge : H.length + 1 ≤ q1 := by rw [List.length_append] at b3; exact b3
      have l3 : Z2.length < Z3.length := at_lt g3
      have a4 := (m3 H.length (by omega) (by omega)).trans a3
      have c4 := (m3 Z1.length (by omega) (by omega)).trans c3
      have g4 := (m3 Z2.length (by omega) (by omega)).trans g3
      have b7 := (m3 q1 (by omega) (by omega)).trans b6
      obtain ⟨Z5, n1, n2⟩ := heldBoxS (IsB.at m4 (mkB_len 1 t)) (by omega) i t (bo1 f t z)
      have a5 := n2.at a4
      have c5 := n2.at c4
      have g5 := n2.at g4
      have b8 := n2.at b7
      have m5 := n2.at m4
      obtain ⟨q3, Z6, k1, k2, k3, k4⟩ := boxOfI_ok Z5 i t f z hp (by omega)
      have c6 := k2.at c5
      have g6 := k2.at g5
      have b9 := k2.at b8
      have m6 := k2.at m5
      obtain ⟨C3, hC3⟩ : ∃ C : Reg, C = ⟨[.sc (.int .i64 i), .sc (.int .i64 t), .sc (.string (bo1 f t z)), .sl q3 0 t 1], true, true⟩ := ⟨_, rfl⟩
      have x6 := Ext.more Z6 [C3]
      have c6' := x6.at c6
      have g6' := x6.at g6
      have b9' := x6.at b9
      have m6' := x6.at m6
      have k4' := x6.at k4
      have k5 := at_end Z6 C3
      obtain ⟨Z7, o1, o2⟩ := eqBoxS (IsB.at k4' hl) (IsB.at b9' hl) (by rw [hl]; omega) i t (bo1 f t z)
      have g7 := o2.at g6'
      have m7 := o2.at m6'
      obtain ⟨Z8, r1, r2⟩ := heldBoxS (IsB.at m7 (mkB_len 1 t)) (by omega) i t (bo1 f t z)
      have kn : ¬ ((1 + t : Nat) : Int) < 0 := by omega
      subst hA hC1 hC2 hC3
      unfold bx prt at b1 d1 k1
      unfold bx at e1 m1 n1 o1 r1
      simp -implicitDefEqProofs only [↓ops_cons, ↓g_assign, ↓ops_nil, ↓w_seq, ↓w_region, h2, Int.reduceNeg, if_false, Nat.reduceLT, ev_tab, upd_eq, ↓g_move, ↓g_binOp, ev_const, of_int, b_lss, decide_false, ↓w_cond, ↓w_ret, of_bool, retP_1, res_tmp, onS_some, ↓w_skip, ↓g_load, ne_eq, Nat.reduceEqDiff, not_false_eq_true, upd_ne, rd_def, tyOk23, agg23, cells23, hap_0, List.getElem?_cons_zero, rd_aggc, Nat.zero_add, List.length_cons, List.length_nil, Nat.reduceAdd, Nat.le_refl, List.drop_zero, List.take_succ_cons, List.take_zero, if_true, onB_false]
      refine call1 (by simp -implicitDefEqProofs only [List.map_cons, Nat.reduceLT, ev_tab, upd_eq, List.map_nil] <;> rfl) tp ?_
      simp -implicitDefEqProofs only [↓ops_cons]
      refine call1S (by simp -implicitDefEqProofs only [List.map_cons, Nat.reduceLT, ev_tab, upd_eq, List.map_nil] <;> rfl) b1 ?_
      simp -implicitDefEqProofs only [↓ops_cons, ↓g_move, ↓g_extract, Nat.reduceLT, ev_tab, upd_eq, ext_0, ne_eq, Nat.reduceEqDiff, not_false_eq_true, upd_ne, ext_1, ↓g_alloc, zero35, Option.map_some, ↓g_store, ↓g_assign, ↓ops_nil, ↓w_seq, ↓w_region, ↓g_load, rd_def, tyOk23, agg23, cells23, alK_some, List.all_cons, one_int, one_str, one_nil, List.all_nil, Bool.and_self, wr_def, tyOk35, cells35, hap_0, List.getElem?_cons_zero, wr_c, Nat.zero_add, List.length_cons, List.length_nil, Nat.reduceAdd, Nat.le_refl, true_and, hset_0, List.set_cons_zero, onS_ite, onS_some, cells_agg, one_sl, and_self, ovr_m, ovr_n, a1', rd_aggc, List.drop_zero, List.take_succ_cons, List.take_zero, if_true]
      refine call1 (by simp -implicitDefEqProofs only [List.map_cons, Nat.reduceLT, ev_tab, upd_eq, List.map_nil] <;> rfl) tp ?_
      simp -implicitDefEqProofs only [↓ops_cons]
      refine call1S (by simp -implicitDefEqProofs only [List.map_cons, Nat.reduceLT, ev_tab, upd_eq, List.map_nil] <;> rfl) d1 ?_
      simp -implicitDefEqProofs only [↓ops_cons, ↓g_move, ↓g_extract, Nat.reduceLT, ev_tab, upd_eq, ext_0, ne_eq, Nat.reduceEqDiff, not_false_eq_true, upd_ne, ext_1, ↓g_alloc, zero35, Option.map_some, ↓g_store, ↓g_assign, ↓ops_nil, ↓w_seq, ↓w_region, ↓g_load, rd_def, tyOk35, agg35, cells35, alK_some, List.all_cons, one_int, one_str, one_nil, List.all_nil, Bool.and_self, wr_def, hap_0, List.getElem?_cons_zero, wr_c, Nat.zero_add, List.length_cons, List.length_nil, Nat.reduceAdd, Nat.le_refl, true_and, hset_0, List.set_cons_zero, onS_ite, onS_some, cells_agg, one_sl, and_self, ovr_m, ovr_n, rd_aggc, List.drop_zero, List.take_succ_cons, List.take_zero, if_true, c2']
      refine call1S (by simp -implicitDefEqProofs only [List.map_cons, Nat.reduceLT, ev_tab, ne_eq, Nat.reduceEqDiff, not_false_eq_true, upd_ne, upd_eq, List.map_nil] <;> rfl) e1 ?_
      simp -implicitDefEqProofs only [↓ops_cons, ↓g_unOp, Nat.reduceLT, ev_tab, upd_eq, u_not, Bool.not_true, Option.map_some, ↓g_move, onS_some, yielded_tab, dstAt_s, dstAt_0, ybv_some, boolOf_b, ↓g_guard_t, ne_eq, Nat.reduceEqDiff, not_false_eq_true, upd_ne, ↓g_binOp, Try.underlying4, v_neq, beq_self_eq_true, ↓g_pick, ev_const, of_bool, pick_b, Bool.false_eq_true, if_false, ↓ops_nil, ↓w_cond, ↓w_seq, ↓w_region, ↓g_assign, ↓w_ret, retP_1, res_tmp, ↓w_skip, of_int, ↓g_load, rd_def, tyOk35, agg35, cells35, g3, rd_aggc, Nat.zero_add, List.length_cons, List.length_nil, Nat.reduceAdd, Nat.le_refl, List.drop_zero, List.take_succ_cons, List.take_zero, if_true, onB_false]
      refine call1S (by simp -implicitDefEqProofs only [List.map_cons, Nat.reduceLT, ev_tab, ne_eq, Nat.reduceEqDiff, not_false_eq_true, upd_ne, upd_eq, List.map_nil] <;> rfl) m1 ?_
      simp -implicitDefEqProofs only [↓ops_cons, ↓g_assign, ↓ops_nil, ↓w_seq, ↓w_region, Nat.reduceLT, ev_tab, upd_eq, ev_const, of_int, ↓g_load, ne_eq, Nat.reduceEqDiff, not_false_eq_true, upd_ne, rd_def, tyOk35, agg35, cells35, g4, rd_aggc, Nat.zero_add, List.length_cons, List.length_nil, Nat.reduceAdd, Nat.le_refl, List.drop_zero, List.take_succ_cons, List.take_zero, if_true, ↓g_move, onS_some]
      refine call1S (by simp -implicitDefEqProofs only [List.map_cons, Nat.reduceLT, ev_tab, ne_eq, Nat.reduceEqDiff, not_false_eq_true, upd_ne, upd_eq, List.map_nil] <;> rfl) n1 ?_
      simp -implicitDefEqProofs only [↓ops_cons, ↓g_assign, ↓ops_nil, ↓w_seq, ↓w_region, Nat.reduceLT, ev_tab, upd_eq, ↓g_move, ↓g_binOp, ev_const, of_int, b_lss, kn, decide_false, ↓w_cond, ↓w_ret, of_bool, retP_1, res_tmp, onS_some, ↓w_skip, ne_eq, Nat.reduceEqDiff, not_false_eq_true, upd_ne, b_neq, decide_true, Bool.not_true, ↓g_load, rd_def, tyOk23, agg23, cells23, a5, rd_aggc, Nat.zero_add, List.length_cons, List.length_nil, Nat.reduceAdd, Nat.le_refl, List.drop_zero, List.take_succ_cons, List.take_zero, if_true, onB_false]
      refine call1 (by simp -implicitDefEqProofs only [List.map_cons, Nat.reduceLT, ev_tab, upd_eq, List.map_nil] <;> rfl) tp ?_
      simp -implicitDefEqProofs only [↓ops_cons]
      refine call1S (by simp -implicitDefEqProofs only [List.map_cons, Nat.reduceLT, ev_tab, upd_eq, List.map_nil] <;> rfl) k1 ?_
      simp -implicitDefEqProofs only [↓ops_cons, ↓g_move, ↓g_extract, Nat.reduceLT, ev_tab, upd_eq, ext_0, ne_eq, Nat.reduceEqDiff, not_false_eq_true, upd_ne, ext_1, ↓g_alloc, zero35, Option.map_some, ↓g_store, ↓g_assign, ↓ops_nil, ↓w_seq, ↓w_region, ↓g_load, rd_def, tyOk35, agg35, cells35, alK_some, List.all_cons, one_int, one_str, one_nil, List.all_nil, Bool.and_self, wr_def, hap_0, List.getElem?_cons_zero, wr_c, Nat.zero_add, List.length_cons, List.length_nil, Nat.reduceAdd, Nat.le_refl, true_and, hset_0, List.set_cons_zero, onS_ite, onS_some, cells_agg, one_sl, and_self, ovr_m, ovr_n, rd_aggc, List.drop_zero, List.take_succ_cons, List.take_zero, if_true, c6']
      refine call1S (by simp -implicitDefEqProofs only [List.map_cons, Nat.reduceLT, ev_tab, ne_eq, Nat.reduceEqDiff, not_false_eq_true, upd_ne, upd_eq, List.map_nil] <;> rfl) o1 ?_
      simp -implicitDefEqProofs only [↓ops_cons, ↓g_unOp, Nat.reduceLT, ev_tab, upd_eq, u_not, Bool.not_true, Option.map_some, ↓g_move, onS_some, yielded_tab, dstAt_s, dstAt_0, ybv_some, boolOf_b, ↓g_guard_t, ne_eq, Nat.reduceEqDiff, not_false_eq_true, upd_ne, ↓g_binOp, Try.underlying4, v_neq, beq_self_eq_true, ↓g_pick, ev_const, of_bool, pick_b, Bool.false_eq_true, if_false, ↓ops_nil, ↓w_cond, ↓w_seq, ↓w_region, ↓g_assign, ↓w_ret, retP_1, res_tmp, ↓w_skip, of_int, ↓g_load, rd_def, tyOk35, agg35, cells35, g7, rd_aggc, Nat.zero_add, List.length_cons, List.length_nil, Nat.reduceAdd, Nat.le_refl, List.drop_zero, List.take_succ_cons, List.take_zero, if_true, onB_false]
      refine call1S (by simp -implicitDefEqProofs only [List.map_cons, Nat.reduceLT, ev_tab, ne_eq, Nat.reduceEqDiff, not_false_eq_true, upd_ne, upd_eq, List.map_nil] <;> rfl) r1 ?_
      simp -implicitDefEqProofs only [↓ops_cons, ↓g_assign, ↓ops_nil, ↓w_seq, ↓w_region, Nat.reduceLT, ev_tab, upd_eq, ↓g_move, ↓g_binOp, ev_const, of_int, b_lss, kn, decide_false, ↓w_cond, ↓w_ret, of_bool, retP_1, res_tmp, onS_some, ↓w_skip, ne_eq, Nat.reduceEqDiff, not_false_eq_true, upd_ne, b_neq, decide_true, Bool.not_true, onB_false]
    · have hS := boxOfS_no i t f z hp (by omega)
      have hI := boxOfI_no i t f z hp (by omega)
      obtain ⟨C, hC⟩ : ∃ C : Reg, C = ⟨[.sc (.int .i64 0), .sc (.int .i64 0), .sc (.string ByteArray.empty), .sc (.slice none 0 0)], true, true⟩ := ⟨_, rfl⟩
      have c0 := hap_0 H [A, C, C]
      have c1 := hap_k H [A, C, C] 1
      have c2 := hap_k H [A, C, C] 2
      obtain ⟨Z3, e1, e2⟩ := eqBoxS (IsB.nil (H ++ [A, C, C])) (IsB.nil _) (by decide) 0 0 ByteArray.empty
      obtain ⟨Z4, m1, m2⟩ := markBoxN Z3 0 0 ByteArray.empty
      obtain ⟨Z5, n1, n2⟩ := heldBoxS (n := 0) (IsB.nil Z4) (by omega) 0 0 ByteArray.empty
      have x5 := (e2.trans m2).trans n2
      have a5 := x5.at c0
      have b5 := x5.at c1
      have g5 := x5.at c2
      have g3 := e2.at c2
      have g4 := m2.at g3
      have x6 := Ext.more Z5 [C]
      have b6 := x6.at b5
      obtain ⟨Z7, o1, o2⟩ := eqBoxS (IsB.nil (Z5 ++ [C])) (IsB.nil _) (by decide) 0 0 ByteArray.empty
      have g7 := o2.at (x6.at g5)
      obtain ⟨Z8, r1, r2⟩ := heldBoxS (n := 0) (IsB.nil Z7) (by omega) 0 0 ByteArray.empty
      have kn : ¬ ((1 + 0 : Nat) : Int) < 0 := by omega
      subst hA hC
      unfold bx prt at hS hI
      unfold bx at e1 m1 n1 o1 r1
      simp -implicitDefEqProofs only [↓ops_cons, ↓g_assign, ↓ops_nil, ↓w_seq, ↓w_region, h2, Int.reduceNeg, if_false, Nat.reduceLT, ev_tab, upd_eq, ↓g_move, ↓g_binOp, ev_const, of_int, b_lss, decide_false, ↓w_cond, ↓w_ret, of_bool, retP_1, res_tmp, onS_some, ↓w_skip, ↓g_load, ne_eq, Nat.reduceEqDiff, not_false_eq_true, upd_ne, rd_def, tyOk23, agg23, cells23, hap_0, List.getElem?_cons_zero, rd_aggc, Nat.zero_add, List.length_cons, List.length_nil, Nat.reduceAdd, Nat.le_refl, List.drop_zero, List.take_succ_cons, List.take_zero, if_true, onB_false]
      refine call1 (by simp -implicitDefEqProofs only [List.map_cons, Nat.reduceLT, ev_tab, upd_eq, List.map_nil] <;> rfl) tp ?_
      simp -implicitDefEqProofs only [↓ops_cons]
      refine call1 (by simp -implicitDefEqProofs only [List.map_cons, Nat.reduceLT, ev_tab, upd_eq, List.map_nil] <;> rfl) hS ?_
      simp -implicitDefEqProofs only [↓ops_cons, ↓g_move, ↓g_extract, Nat.reduceLT, ev_tab, upd_eq, ext_0, ne_eq, Nat.reduceEqDiff, not_false_eq_true, upd_ne, ext_1, ↓g_alloc, zero35, Option.map_some, ↓g_store, ↓g_assign, ↓ops_nil, ↓w_seq, ↓w_region, ↓g_load, rd_def, tyOk23, agg23, cells23, alK_some, List.all_cons, one_int, one_str, one_nil, List.all_nil, Bool.and_self, List.length_append, List.length_cons, List.length_nil, Nat.zero_add, List.append_assoc, List.cons_append, List.nil_append, wr_def, tyOk35, cells35, hap_k, List.getElem?_cons_succ, List.getElem?_cons_zero, wr_c, Nat.reduceAdd, Nat.le_refl, true_and, hset_k, List.set_cons_succ, List.set_cons_zero, onS_ite, hap_0, rd_aggc, List.drop_zero, List.take_succ_cons, List.take_zero, if_true, onS_some, cells_agg, and_self, ovr_m, ovr_n]
      refine call1 (by simp -implicitDefEqProofs only [List.map_cons, Nat.reduceLT, ev_tab, upd_eq, List.map_nil] <;> rfl) tp ?_
      simp -implicitDefEqProofs only [↓ops_cons]
      refine call1 (by simp -implicitDefEqProofs only [List.map_cons, Nat.reduceLT, ev_tab, upd_eq, List.map_nil] <;> rfl) hI ?_
      simp -implicitDefEqProofs only [↓ops_cons, ↓g_move, ↓g_extract, Nat.reduceLT, ev_tab, upd_eq, ext_0, ne_eq, Nat.reduceEqDiff, not_false_eq_true, upd_ne, ext_1, ↓g_alloc, zero35, Option.map_some, ↓g_store, ↓g_assign, ↓ops_nil, ↓w_seq, ↓w_region, ↓g_load, rd_def, tyOk35, agg35, cells35, alK_some, List.all_cons, one_int, one_str, one_nil, List.all_nil, Bool.and_self, List.length_append, List.length_cons, List.length_nil, Nat.zero_add, Nat.reduceAdd, List.append_assoc, List.cons_append, List.nil_append, wr_def, hap_k, List.getElem?_cons_succ, List.getElem?_cons_zero, wr_c, Nat.le_refl, true_and, hset_k, List.set_cons_succ, List.set_cons_zero, onS_ite, rd_aggc, List.drop_zero, List.take_succ_cons, List.take_zero, if_true, onS_some, cells_agg, and_self, ovr_m, ovr_n]
      refine call1S (by simp -implicitDefEqProofs only [List.map_cons, Nat.reduceLT, ev_tab, ne_eq, Nat.reduceEqDiff, not_false_eq_true, upd_ne, upd_eq, List.map_nil] <;> rfl) e1 ?_
      simp -implicitDefEqProofs only [↓ops_cons, ↓g_unOp, Nat.reduceLT, ev_tab, upd_eq, u_not, Bool.not_true, Option.map_some, ↓g_move, onS_some, yielded_tab, dstAt_s, dstAt_0, ybv_some, boolOf_b, ↓g_guard_t, ne_eq, Nat.reduceEqDiff, not_false_eq_true, upd_ne, ↓g_binOp, Try.underlying4, v_neq, beq_self_eq_true, ↓g_pick, ev_const, of_bool, pick_b, Bool.false_eq_true, if_false, ↓ops_nil, ↓w_cond, ↓w_seq, ↓w_region, ↓g_assign, ↓w_ret, retP_1, res_tmp, ↓w_skip, of_int, ↓g_load, rd_def, tyOk35, agg35, cells35, g3, rd_aggc, Nat.zero_add, List.length_cons, List.length_nil, Nat.reduceAdd, Nat.le_refl, List.drop_zero, List.take_succ_cons, List.take_zero, if_true, onB_false]
      refine call1S (by simp -implicitDefEqProofs only [List.map_cons, Nat.reduceLT, ev_tab, ne_eq, Nat.reduceEqDiff, not_false_eq_true, upd_ne, upd_eq, List.map_nil] <;> rfl) m1 ?_
      simp -implicitDefEqProofs only [↓ops_cons, ↓g_assign, ↓ops_nil, ↓w_seq, ↓w_region, Nat.reduceLT, ev_tab, upd_eq, ev_const, of_int, ↓g_load, ne_eq, Nat.reduceEqDiff, not_false_eq_true, upd_ne, rd_def, tyOk35, agg35, cells35, g4, rd_aggc, Nat.zero_add, List.length_cons, List.length_nil, Nat.reduceAdd, Nat.le_refl, List.drop_zero, List.take_succ_cons, List.take_zero, if_true, ↓g_move, onS_some]
      refine call1S (by simp -implicitDefEqProofs only [List.map_cons, Nat.reduceLT, ev_tab, ne_eq, Nat.reduceEqDiff, not_false_eq_true, upd_ne, upd_eq, List.map_nil] <;> rfl) n1 ?_
      simp -implicitDefEqProofs only [↓ops_cons, ↓g_assign, ↓ops_nil, ↓w_seq, ↓w_region, Nat.reduceAdd, Int.cast_ofNat_Int, Nat.reduceLT, ev_tab, upd_eq, ↓g_move, ↓g_binOp, ev_const, of_int, b_lss, Int.reduceLT, decide_false, ↓w_cond, ↓w_ret, of_bool, retP_1, res_tmp, onS_some, ↓w_skip, ne_eq, Nat.reduceEqDiff, not_false_eq_true, upd_ne, b_neq, decide_true, Bool.not_true, ↓g_load, rd_def, tyOk23, agg23, cells23, a5, rd_aggc, Nat.zero_add, List.length_cons, List.length_nil, Nat.le_refl, List.drop_zero, List.take_succ_cons, List.take_zero, if_true, onB_false]
      refine call1 (by simp -implicitDefEqProofs only [List.map_cons, Nat.reduceLT, ev_tab, upd_eq, List.map_nil] <;> rfl) tp ?_
      simp -implicitDefEqProofs only [↓ops_cons]
      refine call1 (by simp -implicitDefEqProofs only [List.map_cons, Nat.reduceLT, ev_tab, upd_eq, List.map_nil] <;> rfl) hI ?_
      simp -implicitDefEqProofs only [↓ops_cons, ↓g_move, ↓g_extract, Nat.reduceLT, ev_tab, upd_eq, ext_0, ne_eq, Nat.reduceEqDiff, not_false_eq_true, upd_ne, ext_1, ↓g_alloc, zero35, Option.map_some, ↓g_store, ↓g_assign, ↓ops_nil, ↓w_seq, ↓w_region, ↓g_load, rd_def, tyOk35, agg35, cells35, alK_some, List.all_cons, one_int, one_str, one_nil, List.all_nil, Bool.and_self, wr_def, hap_0, List.getElem?_cons_zero, wr_c, Nat.zero_add, List.length_cons, List.length_nil, Nat.reduceAdd, Nat.le_refl, true_and, hset_0, List.set_cons_zero, onS_ite, onS_some, cells_agg, and_self, ovr_m, ovr_n, rd_aggc, List.drop_zero, List.take_succ_cons, List.take_zero, if_true, b6]
      refine call1S (by simp -implicitDefEqProofs only [List.map_cons, Nat.reduceLT, ev_tab, ne_eq, Nat.reduceEqDiff, not_false_eq_true, upd_ne, upd_eq, List.map_nil] <;> rfl) o1 ?_
      simp -implicitDefEqProofs only [↓ops_cons, ↓g_unOp, Nat.reduceLT, ev_tab, upd_eq, u_not, Bool.not_true, Option.map_some, ↓g_move, onS_some, yielded_tab, dstAt_s, dstAt_0, ybv_some, boolOf_b, ↓g_guard_t, ne_eq, Nat.reduceEqDiff, not_false_eq_true, upd_ne, ↓g_binOp, Try.underlying4, v_neq, beq_self_eq_true, ↓g_pick, ev_const, of_bool, pick_b, Bool.false_eq_true, if_false, ↓ops_nil, ↓w_cond, ↓w_seq, ↓w_region, ↓g_assign, ↓w_ret, retP_1, res_tmp, ↓w_skip, of_int, ↓g_load, rd_def, tyOk35, agg35, cells35, g7, rd_aggc, Nat.zero_add, List.length_cons, List.length_nil, Nat.reduceAdd, Nat.le_refl, List.drop_zero, List.take_succ_cons, List.take_zero, if_true, onB_false]
      refine call1S (by simp -implicitDefEqProofs only [List.map_cons, Nat.reduceLT, ev_tab, ne_eq, Nat.reduceEqDiff, not_false_eq_true, upd_ne, upd_eq, List.map_nil] <;> rfl) r1 ?_
      simp -implicitDefEqProofs only [↓ops_cons, ↓g_assign, ↓ops_nil, ↓w_seq, ↓w_region, Nat.reduceAdd, Int.cast_ofNat_Int, Nat.reduceLT, ev_tab, upd_eq, ↓g_move, ↓g_binOp, ev_const, of_int, b_lss, Int.reduceLT, decide_false, ↓w_cond, ↓w_ret, of_bool, retP_1, res_tmp, onS_some, ↓w_skip, ne_eq, Nat.reduceEqDiff, not_false_eq_true, upd_ne, b_neq, decide_true, Bool.not_true, onB_false]
end Go.Proofs.Ytheeehbaholjmaa.Sim

