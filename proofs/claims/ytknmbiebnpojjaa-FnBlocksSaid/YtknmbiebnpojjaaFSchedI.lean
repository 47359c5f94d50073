/- The words of a block, as the program makes them. -/
import Derived.Test.YtknmbiebnpojjaaFRot
import Derived.Test.YtknmbiebnpojjaaFSha0
namespace Go.Proofs.Ytknmbiebnpojjaa.Sim
open Go
set_option maxRecDepth 100000
set_option linter.unusedSimpArgs false
set_option linter.unusedVariables false
theorem w_byte (z : ByteArray) (j : Nat) : IntKind.i64.wrap (byteAt z j) = wi (bw z j) := by
  have := byte_range z j
  rw [w64 (by omega) (by omega), wi_bw]
theorem w_acc (z : ByteArray) (i k : Nat) (h : k ≤ 3) : IntKind.i64.wrap (wi (acc z i k) * 256) = wi (acc z i k <<< 8) := by
  rw [acc_shl z i k h]
  have := wi_lt (acc z i k <<< 8)
  have := wi_0 (acc z i k <<< 8)
  rw [w64 (by omega) (by omega)]
theorem get_set {l : List Wo} {i : Nat} {v : Wo} (h : i < l.length) : (l.set i v).getD i 0 = v := by
  simp [List.getD_eq_getElem?_getD, h]
theorem schedI (z : ByteArray) (hz : z.size = 64) : Fn Try.prog 63 [.sc (.string z)] (.agg (ints .i64 (wis (schd z)))) := by
  refine Fn.run 79 [.cell 2 78] Try.func63 rfl rfl rfl rfl (by simp) (flats_cons (.sc _) flats_nil) (flat_ints _ _) ?_
  simp -implicitDefEqProofs only [↓w_seq, ↓w_region, ↓ops_cons, ↓g_alloc, zero78, Option.map_some, ↓ops_nil, ↓g_buildV, List.map_nil, bz78, ↓g_store, Nat.reduceLT, ev_tab, upd_eq, ne_eq, Nat.reduceEqDiff, not_false_eq_true, upd_ne, ↓g_assign, ↓w_block, ev_const, of_int, alK_some, ints_one, wr_def, tyOk78, cells78, at_end, true_and, onS_some, List.length_replicate, wrA, List.length_nil, List.nil_append, List.length_cons, Nat.zero_add, List.cons_append, List.set_cons_succ, List.set_cons_zero]
  have z0 : ints .i64 (List.replicate 64 0) = ints .i64 (wis (pre z 0)) := by rw [wis_rep]; rfl
  refine w_loop (ι := Nat) (fun i s => ∃ T : Nat → AV, s = ⟨tab 79 T, [⟨ints .i64 (List.replicate 64 0), true, true⟩, ⟨ints .i64 (wis (pre z i)), true, true⟩]⟩ ∧ i ≤ 16 ∧ T 0 = .sc (.string z) ∧ T 2 = .ptr 0 0 ∧ T 3 = .ptr 1 0 ∧ T 4 = .sc (.int .i64 i)) (fun i => 16 - i) ?_ (i := 0) ?_
  · rintro i s ⟨T, rfl, a1, a2, a3, a4, a5⟩
    by_cases h : i < 16
    · have k1 : (i : Int) < 16 := by omega
      have k0 : (0 : Int) ≤ i := by omega
      have e1 : IntKind.i64.wrap ((i : Int) + 1) = i + 1 := w64 (by omega) (by omega)
      have e4 : IntKind.i64.wrap (4 * (i : Int)) = 4 * i := w64 (by omega) (by omega)
      have hp : (pre z i).length = 64 := pre_len z i (by omega)
      simp -implicitDefEqProofs only [↓w_seq, ↓w_region, ↓ops_cons, ↓g_move, ↓g_binOp, Nat.reduceLT, ev_tab, a5, upd_eq, ev_const, of_int, b_lss, k1, decide_true, ↓ops_nil, ↓w_cond, ↓w_skip, ↓w_block, ↓g_assign, ↓w_exit, if_true, onS_some, onB_true]
      refine w_loop (ι := Nat) (fun k s => ∃ T : Nat → AV, s = ⟨tab 79 T, [⟨ints .i64 (List.replicate 64 0), true, true⟩, ⟨ints .i64 (wis ((pre z i).set i (acc z i k))), true, true⟩]⟩ ∧ k ≤ 4 ∧ T 0 = .sc (.string z) ∧ T 2 = .ptr 0 0 ∧ T 3 = .ptr 1 0 ∧ T 4 = .sc (.int .i64 i) ∧ T 5 = .sc (.int .i64 k)) (fun k => 4 - k) ?_ (i := 0) ?_
      · rintro k s ⟨T, rfl, b1, b2, b3, b4, b5, b6⟩
        by_cases hk : k < 4
        · have l1 : (k : Int) < 4 := by omega
          have l2 : IntKind.i64.wrap ((k : Int) + 1) = k + 1 := w64 (by omega) (by omega)
          have l3 : IntKind.i64.wrap (4 * (i : Int) + k) = ((4 * i + k : Nat) : Int) := by rw [w64 (by omega) (by omega)]; omega
          have l4 : 4 * i + k < 64 := by omega
          have l5 : (0 : Int) ≤ ((4 * i + k : Nat) : Int) := by omega
          have l6 : i < 64 := by omega
          have l7 : (i : Int) < 64 := by omega
          simp -implicitDefEqProofs only [↓w_seq, ↓w_region, ↓ops_cons, ↓g_move, ↓g_binOp, Nat.reduceLT, ev_tab, b6, upd_eq, ev_const, of_int, b_lss, l1, decide_true, ↓ops_nil, ↓w_cond, ↓w_skip, ↓w_block, ↓w_exit, ne_eq, Nat.reduceEqDiff, not_false_eq_true, upd_ne, b5, b_add, ↓g_assign, onS_some, reduceCtorEq, if_false, if_true, onB_true]
          refine drawn [(3, 0)] follows (by kernel_rfl) (by kernel_rfl) ?_
          simp -implicitDefEqProofs only [↓dops_cons, ↓g_move, ↓g_indexAddr, Try.underlying78, Nat.reduceLT, ev_tab, ne_eq, Nat.reduceEqDiff, not_false_eq_true, upd_ne, b5, b4, upd_eq, adr_arr, k0, Int.cast_ofNat_Int, l7, tyOk3, and_self, Int.toNat_natCast, cells3, Nat.mul_one, Nat.zero_add, if_true, ↓g_load, ↓g_binOp, ev_const, of_int, reduceCtorEq, b2, b_mul, e4, b6, ↓g_index, Try.underlying9, ↓g_convert, Try.underlying5, Try.underlying3, ↓g_store, ↓dops_p, ↓w_region, ↓ops_cons, b_add, ↓g_assign, ↓ops_nil, onS_some, wr_def, l3, idx_str, l5, hz, l4, c_int, w_byte, List.getElem?_cons_succ, List.getElem?_cons_zero, rd_def, agg3, rd_ints, wis_len, List.length_set, hp, l6, wis_get, get_set, b_shl, Int.reduceLT, Int.reduceToNat, bits_i64, Nat.reduceLeDiff, Nat.min_eq_left, Int.reducePow, show k ≤ 3 by omega, w_acc, if_false, b_or, or_i, wr_ints, wis_set, List.set_set, List.set_cons_succ, List.set_cons_zero]
          refine ⟨pairs_cons (same_H rfl) (pairs_nil), ?_⟩
          simp -implicitDefEqProofs only [l2]
          refine ⟨k + 1, by omega, _, congrArg (St.mk _) (by rw [acc]), by omega, ?_, ?_, ?_, ?_, ?_⟩
          · simp -implicitDefEqProofs only [ne_eq, reduceCtorEq, not_false_eq_true, upd_ne, b2]
          · simp -implicitDefEqProofs only [ne_eq, Nat.reduceEqDiff, not_false_eq_true, upd_ne, b3]
          · simp -implicitDefEqProofs only [ne_eq, Nat.reduceEqDiff, not_false_eq_true, upd_ne, b4]
          · simp -implicitDefEqProofs only [ne_eq, Nat.reduceEqDiff, not_false_eq_true, upd_ne, b5]
          · simp -implicitDefEqProofs only [upd_eq] <;> rfl
        · have l1 : ¬ (k : Int) < 4 := by omega
          have hk4 : k = 4 := by omega
          subst hk4
          simp -implicitDefEqProofs only [↓w_seq, ↓w_region, Nat.reduceSub, ↓ops_cons, ↓g_move, ↓g_binOp, Nat.reduceLT, ev_tab, b6, Int.cast_ofNat_Int, upd_eq, ev_const, of_int, b_lss, Int.reduceLT, decide_false, ↓ops_nil, ↓w_cond, ↓w_skip, ↓w_block, ↓w_exit, ne_eq, Nat.reduceEqDiff, not_false_eq_true, upd_ne, b5, b_add, e1, ↓g_assign, onS_some, reduceCtorEq, if_false, if_true, onB_false]
          have hps := pre_set z i (by omega)
          rw [wd] at hps
          refine ⟨i + 1, by omega, _, congrArg (St.mk _) (by rw [hps]), by omega, ?_, ?_, ?_, ?_⟩
          · simp -implicitDefEqProofs only [ne_eq, reduceCtorEq, not_false_eq_true, upd_ne, b2]
          · simp -implicitDefEqProofs only [ne_eq, Nat.reduceEqDiff, not_false_eq_true, upd_ne, b3]
          · simp -implicitDefEqProofs only [ne_eq, Nat.reduceEqDiff, not_false_eq_true, upd_ne, b4]
          · simp -implicitDefEqProofs only [upd_eq] <;> rfl
      · have hss := set_same _ i (acc z i 0) (pre_get z i (by omega)) (by omega)
        refine ⟨_, congrArg (St.mk _) (by rw [hss]), by omega, ?_, ?_, ?_, ?_, ?_⟩
        · simp -implicitDefEqProofs only [ne_eq, reduceCtorEq, not_false_eq_true, upd_ne, a2]
        · simp -implicitDefEqProofs only [ne_eq, Nat.reduceEqDiff, not_false_eq_true, upd_ne, a3]
        · simp -implicitDefEqProofs only [ne_eq, Nat.reduceEqDiff, not_false_eq_true, upd_ne, a4]
        · simp -implicitDefEqProofs only [ne_eq, Nat.reduceEqDiff, not_false_eq_true, upd_ne, a5]
        · simp -implicitDefEqProofs only [upd_eq, Int.cast_ofNat_Int]
    · have k1 : ¬ (i : Int) < 16 := by omega
      have hi : i = 16 := by omega
      subst hi
      simp -implicitDefEqProofs only [↓w_seq, ↓w_region, Nat.reduceSub, ↓ops_cons, ↓g_move, ↓g_binOp, Nat.reduceLT, ev_tab, a5, Int.cast_ofNat_Int, upd_eq, ev_const, of_int, b_lss, Int.reduceLT, decide_false, ↓ops_nil, ↓w_cond, ↓w_skip, ↓w_block, ↓g_assign, ↓w_exit, if_true, onS_some, onB_false]
      refine w_loop (ι := Nat) (fun n s => ∃ T : Nat → AV, s = ⟨tab 79 T, [⟨ints .i64 (List.replicate 64 0), true, true⟩, ⟨ints .i64 (wis (schN (pre z 16) n)), true, true⟩]⟩ ∧ n ≤ 48 ∧ T 2 = .ptr 0 0 ∧ T 3 = .ptr 1 0 ∧ T 6 = .sc (.int .i64 ((16 + n : Nat) : Int))) (fun n => 48 - n) ?_ (i := 0) ?_
      · rintro n s ⟨T, rfl, b1, b3, b4, b5⟩
        have hp : (schN (pre z 16) n).length = 64 := by rw [schN_len, pre_len z 16 (by decide)]
        by_cases h : n < 48
        · have l1 : ((16 + n : Nat) : Int) < 64 := by omega
          have l15 : IntKind.i64.wrap (((16 + n : Nat) : Int) - 15) = ((16 + n - 15 : Nat) : Int) := by rw [w64 (by omega) (by omega)]; omega
          have l2 : IntKind.i64.wrap (((16 + n : Nat) : Int) - 2) = ((16 + n - 2 : Nat) : Int) := by rw [w64 (by omega) (by omega)]; omega
          have l16 : IntKind.i64.wrap (((16 + n : Nat) : Int) - 16) = ((16 + n - 16 : Nat) : Int) := by rw [w64 (by omega) (by omega)]; omega
          have l7 : IntKind.i64.wrap (((16 + n : Nat) : Int) - 7) = ((16 + n - 7 : Nat) : Int) := by rw [w64 (by omega) (by omega)]; omega
          have m0 : ∀ j : Nat, (0 : Int) ≤ (j : Int) := fun j => by omega
          have m15 : ((16 + n - 15 : Nat) : Int) < 64 := by omega
          have m2 : ((16 + n - 2 : Nat) : Int) < 64 := by omega
          have m16 : ((16 + n - 16 : Nat) : Int) < 64 := by omega
          have m7 : ((16 + n - 7 : Nat) : Int) < 64 := by omega
          have n0 : 16 + n < 64 := by omega
          have n15 : 16 + n - 15 < 64 := by omega
          have n2 : 16 + n - 2 < 64 := by omega
          have n16 : 16 + n - 16 < 64 := by omega
          have n7 : 16 + n - 7 < 64 := by omega
          simp -implicitDefEqProofs only [↓w_seq, ↓w_region, ↓ops_cons, ↓g_move, ↓g_binOp, Nat.reduceLT, ev_tab, b5, upd_eq, ev_const, of_int, b_lss, l1, decide_true, ↓ops_nil, ↓w_cond, ↓w_skip, ↓w_block, ↓w_exit, ↓g_load, ne_eq, Nat.reduceEqDiff, not_false_eq_true, upd_ne, b4, rd_def, tyOk78, agg78, cells78, List.getElem?_cons_succ, List.getElem?_cons_zero, ↓g_store, b3, wr_def, ↓w_ret, ret_cell, if_true, onS_some, onB_true]
          refine drawn [(3, 0), (7, 0)] follows (by kernel_rfl) (by kernel_rfl) ?_
          simp -implicitDefEqProofs only [↓dops_cons, ↓g_move, ↓g_binOp, Nat.reduceLT, ev_tab, ne_eq, Nat.reduceEqDiff, not_false_eq_true, upd_ne, b5, upd_eq, ev_const, of_int, b_sub, l15, ↓g_indexAddr, Try.underlying78, b4, ↓g_load, l2, ↓g_assign, ↓dops_p, ↓w_seq, ↓w_region, ↓ops_cons, onS_some, adr_arr, m0, Int.cast_ofNat_Int, m2, tyOk3, and_self, Int.toNat_natCast, cells3, Nat.mul_one, Nat.zero_add, if_true, rd_def, agg3, List.getElem?_cons_succ, List.getElem?_cons_zero, rd_ints, wis_len, hp, n2, wis_get, m15, n15]
          refine ⟨pairs_cons (same_H rfl) (pairs_cons (same_H rfl) (pairs_nil)), ?_⟩
          refine call1 (by simp -implicitDefEqProofs only [List.map_cons, Nat.reduceLT, ev_tab, upd_eq, ev_const, of_int, List.map_nil, Int.cast_ofNat_Int] <;> rfl) (rotI _ 7 (by decide) (by decide)) ?_
          simp -implicitDefEqProofs only [↓ops_cons, ↓g_move, Nat.reduceLT, ev_tab, ne_eq, Nat.reduceEqDiff, not_false_eq_true, upd_ne, upd_eq]
          refine call1 (by simp -implicitDefEqProofs only [List.map_cons, Nat.reduceLT, ev_tab, upd_eq, ev_const, of_int, List.map_nil, Int.cast_ofNat_Int] <;> rfl) (rotI _ 18 (by decide) (by decide)) ?_
          simp -implicitDefEqProofs only [↓ops_cons, ↓g_binOp, Nat.reduceLT, ev_tab, ne_eq, Nat.reduceEqDiff, not_false_eq_true, upd_ne, upd_eq, b_xor, xor_i, ↓g_move, ev_const, of_int, b_shr, Int.reduceLT, Int.reduceToNat, bits_i64, Nat.reduceLeDiff, Nat.min_eq_left, Int.reducePow, sh3, if_false, ↓g_assign, ↓ops_nil, ↓w_seq, ↓w_region, onS_some]
          refine call1 (by simp -implicitDefEqProofs only [List.map_cons, Nat.reduceLT, ev_tab, upd_eq, ev_const, of_int, List.map_nil, Int.cast_ofNat_Int] <;> rfl) (rotI _ 17 (by decide) (by decide)) ?_
          simp -implicitDefEqProofs only [↓ops_cons, ↓g_move, Nat.reduceLT, ev_tab, ne_eq, Nat.reduceEqDiff, not_false_eq_true, upd_ne, upd_eq]
          refine call1 (by simp -implicitDefEqProofs only [List.map_cons, Nat.reduceLT, ev_tab, upd_eq, ev_const, of_int, List.map_nil, Int.cast_ofNat_Int] <;> rfl) (rotI _ 19 (by decide) (by decide)) ?_
          simp -implicitDefEqProofs only [↓ops_cons, ↓g_binOp, Nat.reduceLT, ev_tab, ne_eq, Nat.reduceEqDiff, not_false_eq_true, upd_ne, upd_eq, b_xor, xor_i, ↓g_move, ev_const, of_int, b_shr, Int.reduceLT, Int.reduceToNat, bits_i64, Nat.reduceLeDiff, Nat.min_eq_left, Int.reducePow, sh10, if_false, ↓g_assign, ↓ops_nil, onS_some]
          refine drawn [(4, 0), (10, 0)] follows (by kernel_rfl) (by kernel_rfl) ?_
          simp -implicitDefEqProofs only [↓dops_cons, ↓g_move, ↓g_binOp, Nat.reduceLT, ev_tab, ne_eq, Nat.reduceEqDiff, not_false_eq_true, upd_ne, b5, upd_eq, ev_const, of_int, b_sub, l16, ↓g_indexAddr, Try.underlying78, b4, ↓g_load, l7, adr_arr, m0, Int.cast_ofNat_Int, l1, tyOk3, and_self, Int.toNat_natCast, cells3, Nat.mul_one, Nat.zero_add, if_true, ↓g_store, ↓dops_p, ↓w_region, ↓ops_cons, b_add, ↓g_assign, ↓ops_nil, onS_some, wr_def, List.getElem?_cons_succ, List.getElem?_cons_zero, m7, rd_def, agg3, rd_ints, wis_len, hp, n7, wis_get, m16, n16, b_and, i64_maskA, sum4, wr_ints, n0, wis_set, List.set_cons_succ, List.set_cons_zero]
          refine ⟨pairs_cons (same_H rfl) (pairs_cons (same_H rfl) (pairs_nil)), ?_⟩
          have e1 : IntKind.i64.wrap (((16 + n : Nat) : Int) + 1) = ((16 + (n + 1) : Nat) : Int) := by rw [w64 (by omega) (by omega)]; omega
          simp -implicitDefEqProofs only [e1]
          refine ⟨n + 1, by omega, _, congrArg (St.mk _) (by rw [schN, wstep, sl0, sl1]), by omega, ?_, ?_, ?_⟩
          · simp -implicitDefEqProofs only [ne_eq, Nat.reduceEqDiff, not_false_eq_true, upd_ne, b3]
          · simp -implicitDefEqProofs only [ne_eq, Nat.reduceEqDiff, not_false_eq_true, upd_ne, b4]
          · simp -implicitDefEqProofs only [upd_eq]
        · have l1 : ¬ ((16 + n : Nat) : Int) < 64 := by omega
          have hn : n = 48 := by omega
          subst hn
          have hsd : schN (pre z 16) 48 = schd z := rfl
          rw [hsd] at hp
          simp -implicitDefEqProofs only [↓w_seq, ↓w_region, Nat.reduceSub, hsd, ↓ops_cons, ↓g_move, ↓g_binOp, Nat.reduceLT, ev_tab, b5, Nat.reduceAdd, Int.cast_ofNat_Int, upd_eq, ev_const, of_int, b_lss, Int.reduceLT, decide_false, ↓ops_nil, ↓w_cond, ↓w_skip, ↓w_block, ↓w_exit, ↓g_load, ne_eq, Nat.reduceEqDiff, not_false_eq_true, upd_ne, b4, rd_def, tyOk78, agg78, cells78, List.getElem?_cons_succ, List.getElem?_cons_zero, wis_len, hp, rdA, ↓g_store, b3, wr_def, ↓w_ret, ret_cell, onS_some, List.length_replicate, wrA, List.set_cons_zero, if_true, onB_false]
      · refine ⟨_, rfl, by omega, ?_, ?_, ?_⟩
        · simp -implicitDefEqProofs only [ne_eq, Nat.reduceEqDiff, not_false_eq_true, upd_ne, a3]
        · simp -implicitDefEqProofs only [ne_eq, Nat.reduceEqDiff, not_false_eq_true, upd_ne, a4]
        · simp -implicitDefEqProofs only [upd_eq, Nat.reduceAdd, Int.cast_ofNat_Int]
  · refine ⟨_, congrArg (St.mk _) (by rw [z0]), by omega, ?_, ?_, ?_, ?_⟩
    · simp -implicitDefEqProofs only [ne_eq, reduceCtorEq, not_false_eq_true, upd_ne, par0] <;> rfl
    · simp -implicitDefEqProofs only [ne_eq, Nat.reduceEqDiff, not_false_eq_true, upd_ne, upd_eq] <;> rfl
    · simp -implicitDefEqProofs only [ne_eq, Nat.reduceEqDiff, not_false_eq_true, upd_ne, upd_eq] <;> rfl
    · simp -implicitDefEqProofs only [upd_eq, Int.cast_ofNat_Int] <;> rfl
end Go.Proofs.Ytknmbiebnpojjaa.Sim

