/- A block of SHA-256, as the reference makes it. -/
import Derived.Test.YtknmbiebnpojjaaFBlockI
namespace Go.Proofs.Ytknmbiebnpojjaa.Sim
open Go
set_option maxRecDepth 100000
set_option maxHeartbeats 4000000
set_option linter.unusedSimpArgs false
set_option linter.unusedVariables false
theorem keysS : Fn Try.prog 70 [] (.agg (ints .u32 (wis keys))) := by
  refine Fn.run 2 [.cell 0 88] Try.func70 rfl rfl rfl rfl (by simp) flats_nil (flat_ints _ _) ?_
  simp -implicitDefEqProofs only [↓w_seq, ↓w_region, ↓ops_cons, ↓g_alloc, zero88, Option.map_some, ↓ops_nil, ↓g_buildV, List.map_cons, ev_const, of_int, List.map_nil, ↓g_store, Nat.reduceLT, ev_tab, ne_eq, reduceCtorEq, not_false_eq_true, upd_ne, upd_eq, ↓w_ret, ret_cell, alK_some, ints_one, List.length_nil, List.nil_append, wr_def, tyOk88, cells88, List.getElem?_cons_zero, rd_def, agg88, true_and]
  refine onS_of (v := .agg (ints .u32 (wis keys))) (by kernel_rfl) ?_
  simp -implicitDefEqProofs only [wis_len, keys_len, List.length_replicate, wrA, List.set_cons_zero, onS_some, List.getElem?_cons_zero, rdA]
theorem firstS : Fn Try.prog 69 [] (.agg (ints .u32 (wis start.l))) := by
  refine Fn.run 2 [.cell 0 86] Try.func69 rfl rfl rfl rfl (by simp) flats_nil (flat_ints _ _) ?_
  have h : ints .u32 [1779033703, 3144134277, 1013904242, 2773480762, 1359893119, 2600822924, 528734635, 1541459225] = ints .u32 (wis start.l) := rfl
  simp -implicitDefEqProofs only [↓w_seq, ↓w_region, ↓ops_cons, ↓g_alloc, zero86, Option.map_some, ↓ops_nil, ↓g_buildV, List.map_cons, ev_const, of_int, List.map_nil, bd86, h, ↓g_store, Nat.reduceLT, ev_tab, ne_eq, reduceCtorEq, not_false_eq_true, upd_ne, upd_eq, ↓w_ret, ret_cell, onS_some, alK_some, ints_one, List.length_nil, List.nil_append, wr_def, tyOk86, cells86, List.getElem?_cons_zero, rd_def, agg86, true_and]
  rfl
theorem u_byte (z : ByteArray) (j : Nat) : IntKind.u32.wrap (byteAt z j) = wi (bw z j) := by
  have := byte_range z j
  rw [wu32 (by omega) (by omega), wi_bw]
theorem u_shl (x : Wo) (k : Nat) : IntKind.u32.wrap (wi x * 2 ^ k) = wi (x <<< k) := by rw [IntKind.wrap_u32]; exact shl_w x k
theorem u_shl24 (x : Wo) : IntKind.u32.wrap (wi x * 16777216) = wi (x <<< 24) := u_shl x 24
theorem u_shl16 (x : Wo) : IntKind.u32.wrap (wi x * 65536) = wi (x <<< 16) := u_shl x 16
theorem u_shl8 (x : Wo) : IntKind.u32.wrap (wi x * 256) = wi (x <<< 8) := u_shl x 8
def R8 (s : S8) : List Int := [wi s.a, wi s.b, wi s.c, wi s.d, wi s.e, wi s.f, wi s.g, wi s.h]
theorem blockS (s : S8) (z : ByteArray) (hz : z.size = 64) : Fn Try.prog 72 [.agg (ints .u32 (wis s.l)), .sc (.string z), .agg (ints .u32 (wis keys))] (.agg (ints .u32 (wis (blk s z).l))) := by
  refine Fn.run 224 [.cell 6 86] Try.func72 rfl rfl rfl rfl (by simp) (flats_cons (flat_ints _ _) (flats_cons (.sc _) (flats_cons (flat_ints _ _) flats_nil))) (flat_ints _ _) ?_
  have hl : (wis s.l).length = 8 := rfl
  simp -implicitDefEqProofs only [↓w_seq, ↓w_region, ↓ops_cons, ↓g_box, Nat.reduceLT, ev_tab, par0, cells_agg, ne_eq, Nat.reduceEqDiff, not_false_eq_true, upd_ne, par2, ↓g_alloc, zero86, Option.map_some, ↓ops_nil, ↓g_buildV, List.map_nil, bz88, zero88, ↓g_store, upd_eq, ↓g_assign, ↓w_block, ev_const, of_int, alK_some, ints_one, wr_def, tyOk88, cells88, at_end, true_and, onS_some, List.length_replicate, wrA, List.length_append, List.length_cons, List.length_nil, Nat.zero_add, List.nil_append, Nat.reduceAdd, List.cons_append, List.set_cons_succ, List.set_cons_zero]
  have z0 : ints .u32 (List.replicate 64 0) = ints .u32 (wis (pre z 0)) := by rw [wis_rep]; rfl
  refine w_loop (ι := Nat) (fun i st => ∃ T : Nat → AV, st = ⟨tab 224 T, [⟨ints .u32 (wis s.l), true, true⟩, ⟨ints .u32 (wis keys), true, true⟩, ⟨ints .u32 (List.replicate 8 0), true, true⟩, ⟨ints .u32 (wis (pre z i)), true, true⟩]⟩ ∧ i ≤ 16 ∧ T 1 = .sc (.string z) ∧ T 3 = .ptr 0 0 ∧ T 5 = .ptr 1 0 ∧ T 6 = .ptr 2 0 ∧ T 7 = .ptr 3 0 ∧ T 8 = .sc (.int .i64 i)) (fun i => 16 - i) ?_ (i := 0) ?_
  · rintro i st ⟨T, rfl, a1, a2, a3, a4, a5, a6, a7⟩
    by_cases h : i < 16
    · have k1 : (i : Int) < 16 := by omega
      have k0 : ∀ j : Nat, (0 : Int) ≤ (j : Int) := fun j => by omega
      have e1 : IntKind.i64.wrap ((i : Int) + 1) = i + 1 := w64 (by omega) (by omega)
      have f0 : IntKind.i64.wrap (4 * (i : Int)) = ((4 * i : Nat) : Int) := by rw [w64 (by omega) (by omega)]; omega
      have f1 : IntKind.i64.wrap (((4 * i : Nat) : Int) + 1) = ((4 * i + 1 : Nat) : Int) := by rw [w64 (by omega) (by omega)]; omega
      have f2 : IntKind.i64.wrap (((4 * i : Nat) : Int) + 2) = ((4 * i + 2 : Nat) : Int) := by rw [w64 (by omega) (by omega)]; omega
      have f3 : IntKind.i64.wrap (((4 * i : Nat) : Int) + 3) = ((4 * i + 3 : Nat) : Int) := by rw [w64 (by omega) (by omega)]; omega
      have g0 : 4 * i < 64 := by omega
      have g1 : 4 * i + 1 < 64 := by omega
      have g2 : 4 * i + 2 < 64 := by omega
      have g3 : 4 * i + 3 < 64 := by omega
      have l6 : i < 64 := by omega
      have l7 : (i : Int) < 64 := by omega
      have hp : (pre z i).length = 64 := pre_len z i (by omega)
      have hps := pre_set z i (by omega)
      rw [wd_or] at hps
      simp -implicitDefEqProofs only [↓w_seq, ↓w_region, ↓ops_cons, ↓g_move, ↓g_binOp, Nat.reduceLT, ev_tab, a7, upd_eq, ev_const, of_int, b_lss, k1, decide_true, ↓ops_nil, ↓w_cond, ↓w_skip, ↓w_block, ↓w_exit, ↓g_assign, if_true, onS_some, onB_true]
      refine drawn [] follows (by kernel_rfl) (by kernel_rfl) ?_
      simp -implicitDefEqProofs only [↓dops_cons, ↓g_move, ↓g_binOp, Nat.reduceLT, ev_tab, ne_eq, Nat.reduceEqDiff, not_false_eq_true, upd_ne, a7, a2, ev_const, of_int, upd_eq, b_mul, f0, ↓g_index, Try.underlying9, ↓g_convert, Try.underlying5, Try.underlying85, ↓g_indexAddr, Try.underlying88, a6, adr_arr, k0, Int.cast_ofNat_Int, l7, tyOk85, and_self, Int.toNat_natCast, cells85, Nat.mul_one, Nat.zero_add, if_true, ↓g_store, ↓dops_0, ↓w_region, ↓ops_cons, b_add, e1, ↓g_assign, ↓ops_nil, onS_some, wr_def, f3, idx_str, hz, g3, c_int, u_byte, f2, g2, b_shl, Int.reduceLT, Int.reduceToNat, bits_u32, Nat.reduceLeDiff, Nat.min_eq_left, Int.reducePow, u_shl8, if_false, f1, g1, u_shl16, g0, u_shl24, List.getElem?_cons_succ, List.getElem?_cons_zero, b_or, or_u, wr_ints, wis_len, hp, l6, wis_set, hps, List.set_cons_succ, List.set_cons_zero]
      refine ⟨i + 1, by omega, _, rfl, by omega, ?_, ?_, ?_, ?_, ?_, ?_⟩ <;> simp -implicitDefEqProofs only [ne_eq, Nat.reduceEqDiff, not_false_eq_true, upd_ne, a2, a3, a4, a5, a6, upd_eq] <;> rfl
    · have k1 : ¬ (i : Int) < 16 := by omega
      have hi : i = 16 := by omega
      subst hi
      simp -implicitDefEqProofs only [↓w_seq, ↓w_region, Nat.reduceSub, ↓ops_cons, ↓g_move, ↓g_binOp, Nat.reduceLT, ev_tab, a7, Int.cast_ofNat_Int, upd_eq, ev_const, of_int, b_lss, Int.reduceLT, decide_false, ↓ops_nil, ↓w_cond, ↓w_skip, ↓w_block, ↓w_exit, ↓g_assign, if_true, onS_some, onB_false]
      refine w_loop (ι := Nat) (fun n st => ∃ T : Nat → AV, st = ⟨tab 224 T, [⟨ints .u32 (wis s.l), true, true⟩, ⟨ints .u32 (wis keys), true, true⟩, ⟨ints .u32 (List.replicate 8 0), true, true⟩, ⟨ints .u32 (wis (schN (pre z 16) n)), true, true⟩]⟩ ∧ n ≤ 48 ∧ T 3 = .ptr 0 0 ∧ T 5 = .ptr 1 0 ∧ T 6 = .ptr 2 0 ∧ T 7 = .ptr 3 0 ∧ T 9 = .sc (.int .i64 ((16 + n : Nat) : Int))) (fun n => 48 - n) ?_ (i := 0) ?_
      · rintro n st ⟨T, rfl, b1, b3, b4, b5, b6, b7⟩
        have hp : (schN (pre z 16) n).length = 64 := by rw [schN_len, pre_len z 16 (by decide)]
        by_cases h : n < 48
        · have l1 : ((16 + n : Nat) : Int) < 64 := by omega
          have l15 : IntKind.i64.wrap (((16 + n : Nat) : Int) - 15) = ((16 + n - 15 : Nat) : Int) := by rw [w64 (by omega) (by omega)]; omega
          have l2 : IntKind.i64.wrap (((16 + n : Nat) : Int) - 2) = ((16 + n - 2 : Nat) : Int) := by rw [w64 (by omega) (by omega)]; omega
          have l16 : IntKind.i64.wrap (((16 + n : Nat) : Int) - 16) = ((16 + n - 16 : Nat) : Int) := by rw [w64 (by omega) (by omega)]; omega
          have l7 : IntKind.i64.wrap (((16 + n : Nat) : Int) - 7) = ((16 + n - 7 : Nat) : Int) := by rw [w64 (by omega) (by omega)]; omega
          have m0 : ∀ j : Nat, (0 : Int) ≤ (j : Int) := fun j => by omega
          have m15 : ((16 + n - 15 : Nat) : Int) < 64 := by omega
          have m2 : ((16 + n - 2 : Nat) : Int) < 64 := by omega
          have m16 : ((16 + n - 16 : Nat) : Int) < 64 := by omega
          have m7 : ((16 + n - 7 : Nat) : Int) < 64 := by omega
          have n0 : 16 + n < 64 := by omega
          have n15 : 16 + n - 15 < 64 := by omega
          have n2 : 16 + n - 2 < 64 := by omega
          have n16 : 16 + n - 16 < 64 := by omega
          have n7 : 16 + n - 7 < 64 := by omega
          have e1 : IntKind.i64.wrap (((16 + n : Nat) : Int) + 1) = ((16 + (n + 1) : Nat) : Int) := by rw [w64 (by omega) (by omega)]; omega
          simp -implicitDefEqProofs only [↓w_seq, ↓w_region, ↓ops_cons, ↓g_move, ↓g_binOp, Nat.reduceLT, ev_tab, b7, upd_eq, ev_const, of_int, b_lss, l1, decide_true, ↓ops_nil, ↓w_cond, ↓w_skip, ↓w_block, ↓w_exit, ↓g_load, ne_eq, Nat.reduceEqDiff, not_false_eq_true, upd_ne, b3, rd_def, tyOk86, agg86, cells86, List.getElem?_cons_zero, ↓g_alloc, zero86, Option.map_some, ↓g_store, ↓g_assign, alK_some, ints_one, List.length_cons, List.length_nil, Nat.zero_add, Nat.reduceAdd, List.cons_append, List.nil_append, wr_def, List.getElem?_cons_succ, true_and, if_true, onS_some, onB_true]
          refine drawn [(3, 0), (8, 0), (8, 5), (14, 0), (14, 5), (14, 10)] follows (by kernel_rfl) (by kernel_rfl) ?_
          simp -implicitDefEqProofs only [↓dops_cons, ↓g_move, ↓g_binOp, Nat.reduceLT, ev_tab, ne_eq, Nat.reduceEqDiff, not_false_eq_true, upd_ne, b7, upd_eq, ev_const, of_int, b_sub, l15, ↓g_indexAddr, Try.underlying88, b6, ↓g_load, onS_some, adr_arr, m0, Int.cast_ofNat_Int, m15, tyOk85, and_self, Int.toNat_natCast, cells85, Nat.mul_one, Nat.zero_add, if_true, rd_def, agg85, List.getElem?_cons_succ, List.getElem?_cons_zero, rd_ints, wis_len, hp, n15, wis_get]
          refine call1 (by simp -implicitDefEqProofs only [List.map_cons, Nat.reduceLT, ev_tab, upd_eq, ev_const, of_int, List.map_nil, Int.cast_ofNat_Int] <;> rfl) (rotU _ 7 (by decide) (by decide)) ?_
          simp -implicitDefEqProofs only [↓dops_cons, ↓g_move, ↓g_binOp, Nat.reduceLT, ev_tab, ne_eq, Nat.reduceEqDiff, not_false_eq_true, upd_ne, b7, upd_eq, ev_const, of_int, b_sub, l15, ↓g_indexAddr, Try.underlying88, b6, ↓g_load, onS_some, adr_arr, m0, Int.cast_ofNat_Int, m15, tyOk85, and_self, Int.toNat_natCast, cells85, Nat.mul_one, Nat.zero_add, if_true, rd_def, agg85, List.getElem?_cons_succ, List.getElem?_cons_zero, rd_ints, wis_len, hp, n15, wis_get]
          refine call1 (by simp -implicitDefEqProofs only [List.map_cons, Nat.reduceLT, ev_tab, upd_eq, ev_const, of_int, List.map_nil, Int.cast_ofNat_Int] <;> rfl) (rotU _ 18 (by decide) (by decide)) ?_
          simp -implicitDefEqProofs only [↓dops_cons, ↓g_binOp, Nat.reduceLT, ev_tab, ne_eq, Nat.reduceEqDiff, not_false_eq_true, upd_ne, upd_eq, b_xor, xor_u, ↓g_move, b7, ev_const, of_int, b_sub, l15, ↓g_indexAddr, Try.underlying88, b6, ↓g_load, ↓g_assign, ↓dops_p, ↓w_seq, onS_some, adr_arr, m0, Int.cast_ofNat_Int, m15, tyOk85, and_self, Int.toNat_natCast, cells85, Nat.mul_one, Nat.zero_add, if_true, rd_def, agg85, List.getElem?_cons_succ, List.getElem?_cons_zero, rd_ints, wis_len, hp, n15, wis_get, b_shr, Int.reduceLT, Int.reduceToNat, bits_u32, Nat.reduceLeDiff, Nat.min_eq_left, Int.reducePow, sh3, if_false]
          refine ⟨pairs_cons (same_H rfl) (pairs_cons (same_H rfl) (pairs_cons (same_H rfl) (pairs_cons (same_H rfl) (pairs_cons (same_H rfl) (pairs_cons (same_H rfl) (pairs_nil)))))), ?_⟩
          refine drawn [(3, 0), (8, 0), (8, 5), (14, 0), (14, 5), (14, 10)] follows (by kernel_rfl) (by kernel_rfl) ?_
          simp -implicitDefEqProofs only [↓dops_cons, ↓g_move, ↓g_binOp, Nat.reduceLT, ev_tab, ne_eq, Nat.reduceEqDiff, not_false_eq_true, upd_ne, b7, upd_eq, ev_const, of_int, b_sub, l2, ↓g_indexAddr, Try.underlying88, b6, ↓g_load, onS_some, adr_arr, m0, Int.cast_ofNat_Int, m2, tyOk85, and_self, Int.toNat_natCast, cells85, Nat.mul_one, Nat.zero_add, if_true, rd_def, agg85, List.getElem?_cons_succ, List.getElem?_cons_zero, rd_ints, wis_len, hp, n2, wis_get]
          refine call1 (by simp -implicitDefEqProofs only [List.map_cons, Nat.reduceLT, ev_tab, upd_eq, ev_const, of_int, List.map_nil, Int.cast_ofNat_Int] <;> rfl) (rotU _ 17 (by decide) (by decide)) ?_
          simp -implicitDefEqProofs only [↓dops_cons, ↓g_move, ↓g_binOp, Nat.reduceLT, ev_tab, ne_eq, Nat.reduceEqDiff, not_false_eq_true, upd_ne, b7, upd_eq, ev_const, of_int, b_sub, l2, ↓g_indexAddr, Try.underlying88, b6, ↓g_load, onS_some, adr_arr, m0, Int.cast_ofNat_Int, m2, tyOk85, and_self, Int.toNat_natCast, cells85, Nat.mul_one, Nat.zero_add, if_true, rd_def, agg85, List.getElem?_cons_succ, List.getElem?_cons_zero, rd_ints, wis_len, hp, n2, wis_get]
          refine call1 (by simp -implicitDefEqProofs only [List.map_cons, Nat.reduceLT, ev_tab, upd_eq, ev_const, of_int, List.map_nil, Int.cast_ofNat_Int] <;> rfl) (rotU _ 19 (by decide) (by decide)) ?_
          simp -implicitDefEqProofs only [↓dops_cons, ↓g_binOp, Nat.reduceLT, ev_tab, ne_eq, Nat.reduceEqDiff, not_false_eq_true, upd_ne, upd_eq, b_xor, xor_u, ↓g_move, b7, ev_const, of_int, b_sub, l2, ↓g_indexAddr, Try.underlying88, b6, ↓g_load, ↓g_assign, ↓dops_p, onS_some, adr_arr, m0, Int.cast_ofNat_Int, m2, tyOk85, and_self, Int.toNat_natCast, cells85, Nat.mul_one, Nat.zero_add, if_true, rd_def, agg85, List.getElem?_cons_succ, List.getElem?_cons_zero, rd_ints, wis_len, hp, n2, wis_get, b_shr, Int.reduceLT, Int.reduceToNat, bits_u32, Nat.reduceLeDiff, Nat.min_eq_left, Int.reducePow, sh10, if_false]
          refine ⟨pairs_cons (same_H rfl) (pairs_cons (same_H rfl) (pairs_cons (same_H rfl) (pairs_cons (same_H rfl) (pairs_cons (same_H rfl) (pairs_cons (same_H rfl) (pairs_nil)))))), ?_⟩
          refine drawn [(4, 0), (10, 0)] follows (by kernel_rfl) (by kernel_rfl) ?_
          simp -implicitDefEqProofs only [↓dops_cons, ↓g_move, ↓g_binOp, Nat.reduceLT, ev_tab, ne_eq, Nat.reduceEqDiff, not_false_eq_true, upd_ne, b7, upd_eq, ev_const, of_int, b_sub, l16, ↓g_indexAddr, Try.underlying88, b6, ↓g_load, l7, adr_arr, m0, Int.cast_ofNat_Int, l1, tyOk85, and_self, Int.toNat_natCast, cells85, Nat.mul_one, Nat.zero_add, if_true, ↓g_store, ↓dops_p, ↓w_region, ↓ops_cons, b_add, e1, ↓g_assign, ↓ops_nil, onS_some, wr_def, List.getElem?_cons_succ, List.getElem?_cons_zero, m7, rd_def, agg85, rd_ints, wis_len, hp, n7, wis_get, m16, n16, add_u, wr_ints, n0, wis_set, List.set_cons_succ, List.set_cons_zero]
          refine ⟨pairs_cons (same_H rfl) (pairs_cons (same_H rfl) (pairs_nil)), ?_⟩
          refine ⟨n + 1, by omega, _, congrArg (St.mk _) (by rw [schN, wstep, sl0, sl1]), by omega, ?_, ?_, ?_, ?_, ?_⟩ <;> simp -implicitDefEqProofs only [ne_eq, Nat.reduceEqDiff, not_false_eq_true, upd_ne, b3, b4, b5, b6, upd_eq] <;> rfl
        · have l1 : ¬ ((16 + n : Nat) : Int) < 64 := by omega
          have hn : n = 48 := by omega
          subst hn
          have hsd : schN (pre z 16) 48 = schd z := rfl
          rw [hsd] at hp
          simp -implicitDefEqProofs only [↓w_seq, ↓w_region, Nat.reduceSub, hsd, ↓ops_cons, ↓g_move, ↓g_binOp, Nat.reduceLT, ev_tab, b7, Nat.reduceAdd, Int.cast_ofNat_Int, upd_eq, ev_const, of_int, b_lss, Int.reduceLT, decide_false, ↓ops_nil, ↓w_cond, ↓w_skip, ↓w_block, ↓w_exit, ↓g_load, ne_eq, Nat.reduceEqDiff, not_false_eq_true, upd_ne, b3, rd_def, tyOk86, agg86, cells86, List.getElem?_cons_zero, hl, rdA, ↓g_alloc, zero86, Option.map_some, ↓g_store, ↓g_assign, alK_some, ints_one, List.length_cons, List.length_nil, Nat.zero_add, List.cons_append, List.nil_append, wr_def, List.getElem?_cons_succ, true_and, onS_some, List.length_replicate, wrA, List.set_cons_succ, List.set_cons_zero, if_true, onB_false]
          obtain ⟨R, hR0, hRs, hR6⟩ : ∃ R : Nat → S8, R 0 = s ∧ (∀ n, R (n + 1) = rnd (R n) (keys.getD n 0) ((schd z).getD n 0)) ∧ R 64 = rnds (schd z) s 64 := ⟨rnds (schd z) s, rfl, fun _ => rfl, rfl⟩
          refine w_loop (ι := Nat) (fun n st => ∃ T : Nat → AV, st = ⟨tab 224 T, [⟨ints .u32 (wis s.l), true, true⟩, ⟨ints .u32 (wis keys), true, true⟩, ⟨ints .u32 (List.replicate 8 0), true, true⟩, ⟨ints .u32 (wis (schd z)), true, true⟩, ⟨ints .u32 [wi (R n).a, wi (R n).b, wi (R n).c, wi (R n).d, wi (R n).e, wi (R n).f, wi (R n).g, wi (R n).h], true, true⟩]⟩ ∧ n ≤ 64 ∧ T 3 = .ptr 0 0 ∧ T 5 = .ptr 1 0 ∧ T 6 = .ptr 2 0 ∧ T 7 = .ptr 3 0 ∧ T 12 = .ptr 4 0 ∧ T 13 = .sc (.int .i64 n)) (fun n => 64 - n) ?_ (i := 0) ?_
          · rintro n st ⟨T, rfl, c1, c3, c5, c6, c7, c8, c9⟩
            by_cases h : n < 64
            · have k1 : (n : Int) < 64 := by omega
              have k0 : (0 : Int) ≤ n := by omega
              have e1 : IntKind.i64.wrap ((n : Int) + 1) = n + 1 := w64 (by omega) (by omega)
              have hRn := hRs n
              simp only [rnd, one, two, su1, su0, chs, maj] at hRn
              simp -implicitDefEqProofs only [↓w_seq, ↓w_region, ↓ops_cons, ↓g_move, ↓g_binOp, Nat.reduceLT, ev_tab, c9, upd_eq, ev_const, of_int, b_lss, k1, decide_true, ↓ops_nil, ↓w_cond, ↓w_skip, ↓w_block, ↓w_exit, ↓g_assign, if_true, onS_some, onB_true]
              refine drawn [(1, 0), (4, 0), (4, 3), (8, 0), (8, 3), (8, 6)] follows (by kernel_rfl) (by kernel_rfl) ?_
              simp -implicitDefEqProofs only [↓dops_cons, ↓g_indexAddr, Try.underlying86, Nat.reduceLT, ev_tab, ne_eq, Nat.reduceEqDiff, not_false_eq_true, upd_ne, c8, ev_const, of_int, adr_arr, Int.reduceLE, Int.cast_ofNat_Int, Int.reduceLT, tyOk85, and_self, Int.reduceToNat, cells85, Nat.mul_one, Nat.zero_add, if_true, ↓g_load, upd_eq, onS_some, rd_def, agg85, List.getElem?_cons_succ, List.getElem?_cons_zero, rd_ints, List.length_cons, List.length_nil, Nat.reduceAdd, List.getD_cons_succ, List.getD_cons_zero]
              refine call1 (by simp -implicitDefEqProofs only [List.map_cons, Nat.reduceLT, ev_tab, upd_eq, ev_const, of_int, List.map_nil, Int.cast_ofNat_Int] <;> rfl) (rotU _ 6 (by decide) (by decide)) ?_
              simp -implicitDefEqProofs only [↓dops_cons, ↓g_indexAddr, Try.underlying86, Nat.reduceLT, ev_tab, ne_eq, Nat.reduceEqDiff, not_false_eq_true, upd_ne, c8, ev_const, of_int, adr_arr, Int.reduceLE, Int.cast_ofNat_Int, Int.reduceLT, tyOk85, and_self, Int.reduceToNat, cells85, Nat.mul_one, Nat.zero_add, if_true, ↓g_load, upd_eq, onS_some, rd_def, agg85, List.getElem?_cons_succ, List.getElem?_cons_zero, rd_ints, List.length_cons, List.length_nil, Nat.reduceAdd, List.getD_cons_succ, List.getD_cons_zero]
              refine call1 (by simp -implicitDefEqProofs only [List.map_cons, Nat.reduceLT, ev_tab, upd_eq, ev_const, of_int, List.map_nil, Int.cast_ofNat_Int] <;> rfl) (rotU _ 11 (by decide) (by decide)) ?_
              simp -implicitDefEqProofs only [↓dops_cons, ↓g_binOp, Nat.reduceLT, ev_tab, ne_eq, Nat.reduceEqDiff, not_false_eq_true, upd_ne, upd_eq, b_xor, xor_u, ↓g_indexAddr, Try.underlying86, c8, ev_const, of_int, adr_arr, Int.reduceLE, Int.cast_ofNat_Int, Int.reduceLT, tyOk85, and_self, Int.reduceToNat, cells85, Nat.mul_one, Nat.zero_add, if_true, ↓g_load, onS_some, rd_def, agg85, List.getElem?_cons_succ, List.getElem?_cons_zero, rd_ints, List.length_cons, List.length_nil, Nat.reduceAdd, List.getD_cons_succ, List.getD_cons_zero]
              refine call1 (by simp -implicitDefEqProofs only [List.map_cons, Nat.reduceLT, ev_tab, upd_eq, ev_const, of_int, List.map_nil, Int.cast_ofNat_Int] <;> rfl) (rotU _ 25 (by decide) (by decide)) ?_
              simp -implicitDefEqProofs only [↓dops_cons, ↓g_binOp, Nat.reduceLT, ev_tab, ne_eq, Nat.reduceEqDiff, not_false_eq_true, upd_ne, upd_eq, b_xor, xor_u, ↓g_assign, ↓dops_p, ↓w_seq, ↓w_region, ↓ops_cons, ↓g_indexAddr, Try.underlying86, c8, ev_const, of_int, adr_arr, Int.reduceLE, Int.cast_ofNat_Int, Int.reduceLT, tyOk85, and_self, Int.reduceToNat, cells85, Nat.mul_one, Nat.zero_add, if_true, ↓g_load, ↓ops_nil, onS_some, rd_def, agg85, List.getElem?_cons_succ, List.getElem?_cons_zero, rd_ints, List.length_cons, List.length_nil, Nat.reduceAdd, List.getD_cons_succ, List.getD_cons_zero, not_r, b_and, and_u]
              refine ⟨pairs_cons (same_H rfl) (pairs_cons (same_H rfl) (pairs_cons (same_H rfl) (pairs_cons (same_H rfl) (pairs_cons (same_H rfl) (pairs_cons (same_H rfl) (pairs_nil)))))), ?_⟩
              refine drawn [(1, 0), (8, 0), (12, 0)] follows (by kernel_rfl) (by kernel_rfl) ?_
              simp -implicitDefEqProofs only [↓dops_cons, ↓g_indexAddr, Try.underlying86, Nat.reduceLT, ev_tab, ne_eq, Nat.reduceEqDiff, not_false_eq_true, upd_ne, c8, ev_const, of_int, adr_arr, Int.reduceLE, Int.cast_ofNat_Int, Int.reduceLT, tyOk85, and_self, Int.reduceToNat, cells85, Nat.mul_one, Nat.zero_add, if_true, ↓g_load, upd_eq, ↓g_move, ↓g_binOp, Try.underlying88, c9, c5, k0, k1, Int.toNat_natCast, c7, ↓g_assign, ↓dops_p, ↓w_seq, onS_some, rd_def, agg85, List.getElem?_cons_succ, List.getElem?_cons_zero, rd_ints, wis_len, hp, h, wis_get, keys_len, List.length_cons, List.length_nil, Nat.reduceAdd, List.getD_cons_succ, List.getD_cons_zero, b_add, add_u]
              refine ⟨pairs_cons (same_H rfl) (pairs_cons (same_H rfl) (pairs_cons (same_H rfl) (pairs_nil))), ?_⟩
              refine drawn [(1, 0), (4, 0), (4, 3), (8, 0), (8, 3), (8, 6)] follows (by kernel_rfl) (by kernel_rfl) ?_
              simp -implicitDefEqProofs only [↓dops_cons, ↓g_indexAddr, Try.underlying86, Nat.reduceLT, ev_tab, ne_eq, Nat.reduceEqDiff, not_false_eq_true, upd_ne, c8, ev_const, of_int, adr_arr, Int.reduceLE, Int.cast_ofNat_Int, Int.reduceLT, tyOk85, and_self, Int.toNat_zero, cells85, Nat.mul_one, Nat.zero_add, if_true, ↓g_load, upd_eq, onS_some, rd_def, agg85, List.getElem?_cons_succ, List.getElem?_cons_zero, rd_ints, List.length_cons, List.length_nil, Nat.reduceAdd, List.getD_cons_zero]
              refine call1 (by simp -implicitDefEqProofs only [List.map_cons, Nat.reduceLT, ev_tab, upd_eq, ev_const, of_int, List.map_nil, Int.cast_ofNat_Int] <;> rfl) (rotU _ 2 (by decide) (by decide)) ?_
              simp -implicitDefEqProofs only [↓dops_cons, ↓g_indexAddr, Try.underlying86, Nat.reduceLT, ev_tab, ne_eq, Nat.reduceEqDiff, not_false_eq_true, upd_ne, c8, ev_const, of_int, adr_arr, Int.reduceLE, Int.cast_ofNat_Int, Int.reduceLT, tyOk85, and_self, Int.toNat_zero, cells85, Nat.mul_one, Nat.zero_add, if_true, ↓g_load, upd_eq, onS_some, rd_def, agg85, List.getElem?_cons_succ, List.getElem?_cons_zero, rd_ints, List.length_cons, List.length_nil, Nat.reduceAdd, List.getD_cons_zero]
              refine call1 (by simp -implicitDefEqProofs only [List.map_cons, Nat.reduceLT, ev_tab, upd_eq, ev_const, of_int, List.map_nil, Int.cast_ofNat_Int] <;> rfl) (rotU _ 13 (by decide) (by decide)) ?_
              simp -implicitDefEqProofs only [↓dops_cons, ↓g_binOp, Nat.reduceLT, ev_tab, ne_eq, Nat.reduceEqDiff, not_false_eq_true, upd_ne, upd_eq, b_xor, xor_u, ↓g_indexAddr, Try.underlying86, c8, ev_const, of_int, adr_arr, Int.reduceLE, Int.cast_ofNat_Int, Int.reduceLT, tyOk85, and_self, Int.toNat_zero, cells85, Nat.mul_one, Nat.zero_add, if_true, ↓g_load, onS_some, rd_def, agg85, List.getElem?_cons_succ, List.getElem?_cons_zero, rd_ints, List.length_cons, List.length_nil, Nat.reduceAdd, List.getD_cons_zero]
              refine call1 (by simp -implicitDefEqProofs only [List.map_cons, Nat.reduceLT, ev_tab, upd_eq, ev_const, of_int, List.map_nil, Int.cast_ofNat_Int] <;> rfl) (rotU _ 22 (by decide) (by decide)) ?_
              simp -implicitDefEqProofs only [↓dops_cons, ↓g_binOp, Nat.reduceLT, ev_tab, ne_eq, Nat.reduceEqDiff, not_false_eq_true, upd_ne, upd_eq, b_xor, xor_u, ↓g_assign, ↓dops_p, ↓w_seq, ↓w_region, ↓ops_cons, ↓g_indexAddr, Try.underlying86, c8, ev_const, of_int, adr_arr, Int.reduceLE, Int.cast_ofNat_Int, Int.reduceLT, tyOk85, and_self, Int.toNat_zero, cells85, Nat.mul_one, Nat.zero_add, if_true, ↓g_load, Int.reduceToNat, ↓ops_nil, ↓g_move, ↓g_store, onS_some, wr_def, rd_def, agg85, List.getElem?_cons_succ, List.getElem?_cons_zero, rd_ints, List.length_cons, List.length_nil, Nat.reduceAdd, List.getD_cons_succ, List.getD_cons_zero, wr_ints, List.set_cons_succ, List.set_cons_zero, b_add, b_and, and_u]
              refine ⟨pairs_cons (same_H rfl) (pairs_cons (same_H rfl) (pairs_cons (same_H rfl) (pairs_cons (same_H rfl) (pairs_cons (same_H rfl) (pairs_cons (same_H rfl) (pairs_nil)))))), ?_⟩
              simp -implicitDefEqProofs only [c9, b_add, e1, add_u, onS_some]
              refine ⟨n + 1, by omega, _, congrArg (St.mk _) (by rw [hRn]), by omega, ?_, ?_, ?_, ?_, ?_, ?_⟩ <;> simp -implicitDefEqProofs only [ne_eq, Nat.reduceEqDiff, not_false_eq_true, upd_ne, c3, c5, c6, c7, c8, upd_eq] <;> rfl
            · have k1 : ¬ (n : Int) < 64 := by omega
              have hn : n = 64 := by omega
              subst hn
              simp -implicitDefEqProofs only [↓w_seq, ↓w_region, Nat.reduceSub, ↓ops_cons, ↓g_move, ↓g_binOp, Nat.reduceLT, ev_tab, c9, Int.cast_ofNat_Int, upd_eq, ev_const, of_int, b_lss, Int.reduceLT, decide_false, ↓ops_nil, ↓w_cond, ↓w_skip, ↓w_block, ↓w_exit, ↓g_assign, if_true, onS_some, onB_false]
              have hRl : ints .u32 [wi (R 64).a, wi (R 64).b, wi (R 64).c, wi (R 64).d, wi (R 64).e, wi (R 64).f, wi (R 64).g, wi (R 64).h] = ints .u32 (wis (R 64).l) := rfl
              rw [hRl]
              have hB : (blk s z) = s.add (R 64) := by rw [blk, ← hR6]
              rw [hB]
              generalize hr : R 64 = r at *
              have hrl : (wis r.l).length = 8 := rfl
              have hA : s.l.length = (s.add r).l.length := rfl
              refine w_loop (ι := Nat) (fun i st => ∃ T : Nat → AV, st = ⟨tab 224 T, [⟨ints .u32 (wis (mix s.l (s.add r).l i)), true, true⟩, ⟨ints .u32 (wis keys), true, true⟩, ⟨ints .u32 (List.replicate 8 0), true, true⟩, ⟨ints .u32 (wis (schd z)), true, true⟩, ⟨ints .u32 (wis r.l), true, true⟩]⟩ ∧ i ≤ 8 ∧ T 3 = .ptr 0 0 ∧ T 6 = .ptr 2 0 ∧ T 12 = .ptr 4 0 ∧ T 20 = .sc (.int .i64 i)) (fun i => 8 - i) ?_ (i := 0) ?_
              · rintro i st ⟨T, rfl, d1, d2, d3, d4, d5⟩
                by_cases hi : i < 8
                · have j1 : (i : Int) < 8 := by omega
                  have j0 : (0 : Int) ≤ i := by omega
                  have e1 : IntKind.i64.wrap ((i : Int) + 1) = i + 1 := w64 (by omega) (by omega)
                  have hm : (mix s.l (s.add r).l i).length = 8 := mix_len _ _ i hA
                  have hg : (mix s.l (s.add r).l i).getD i 0 = s.l.getD i 0 := mix_get _ _ i hA hi
                  have hs := mix_set s.l (s.add r).l i hA hi
                  rw [add_get s r i hi] at hs
                  simp -implicitDefEqProofs only [↓w_seq, ↓w_region, ↓ops_cons, ↓g_move, ↓g_binOp, Nat.reduceLT, ev_tab, d5, upd_eq, ev_const, of_int, b_lss, j1, decide_true, ↓ops_nil, ↓w_cond, ↓w_skip, ↓w_block, ↓w_exit, ↓g_load, ne_eq, Nat.reduceEqDiff, not_false_eq_true, upd_ne, d2, rd_def, tyOk86, agg86, cells86, List.getElem?_cons_zero, ↓g_store, d3, wr_def, List.getElem?_cons_succ, ↓w_ret, ret_cell, if_true, onS_some, onB_true]
                  refine drawn [(3, 0), (6, 0)] follows (by kernel_rfl) (by kernel_rfl) ?_
                  simp -implicitDefEqProofs only [↓dops_cons, ↓g_move, ↓g_indexAddr, Try.underlying86, Nat.reduceLT, ev_tab, ne_eq, Nat.reduceEqDiff, not_false_eq_true, upd_ne, d5, d2, upd_eq, adr_arr, j0, Int.cast_ofNat_Int, j1, tyOk85, and_self, Int.toNat_natCast, cells85, Nat.mul_one, Nat.zero_add, if_true, ↓g_load, d4, ↓g_binOp, ↓g_store, ↓dops_p, ↓w_region, ↓ops_cons, ev_const, of_int, b_add, e1, ↓g_assign, ↓ops_nil, onS_some, wr_def, List.getElem?_cons_zero, rd_def, agg85, List.getElem?_cons_succ, rd_ints, hrl, hi, wis_get, wis_len, hm, hg, add_u, wr_ints, wis_set, hs, List.set_cons_zero]
                  refine ⟨pairs_cons (same_H rfl) (pairs_cons (same_H rfl) (pairs_nil)), ?_⟩
                  refine ⟨i + 1, by omega, _, rfl, by omega, ?_, ?_, ?_, ?_⟩ <;> simp -implicitDefEqProofs only [ne_eq, Nat.reduceEqDiff, not_false_eq_true, upd_ne, d2, d3, d4, upd_eq] <;> rfl
                · have j1 : ¬ (i : Int) < 8 := by omega
                  have hn : i = 8 := by omega
                  subst hn
                  have hm : (mix s.l (s.add r).l 8).length = 8 := mix_len _ _ 8 hA
                  simp -implicitDefEqProofs only [↓w_seq, ↓w_region, Nat.reduceSub, ↓ops_cons, ↓g_move, ↓g_binOp, Nat.reduceLT, ev_tab, d5, Int.cast_ofNat_Int, upd_eq, ev_const, of_int, b_lss, Int.reduceLT, decide_false, ↓ops_nil, ↓w_cond, ↓w_skip, ↓w_block, ↓w_exit, ↓g_load, ne_eq, Nat.reduceEqDiff, not_false_eq_true, upd_ne, d2, rd_def, tyOk86, agg86, cells86, List.getElem?_cons_zero, wis_len, hm, rdA, ↓g_store, d3, wr_def, List.getElem?_cons_succ, ↓w_ret, ret_cell, onS_some, List.length_replicate, wrA, List.set_cons_succ, List.set_cons_zero, if_true, onB_false]
                  rfl
              · refine ⟨_, rfl, by omega, ?_, ?_, ?_, ?_⟩ <;> simp -implicitDefEqProofs only [ne_eq, Nat.reduceEqDiff, not_false_eq_true, upd_ne, c3, c6, c8, upd_eq, Int.cast_ofNat_Int] <;> rfl
          · refine ⟨_, congrArg (St.mk _) (by rw [hR0]; rfl), by omega, ?_, ?_, ?_, ?_, ?_, ?_⟩ <;> simp -implicitDefEqProofs only [ne_eq, Nat.reduceEqDiff, not_false_eq_true, upd_ne, b3, b4, b5, b6, upd_eq, Int.cast_ofNat_Int] <;> rfl
      · refine ⟨_, rfl, by omega, ?_, ?_, ?_, ?_, ?_⟩ <;> simp -implicitDefEqProofs only [ne_eq, Nat.reduceEqDiff, not_false_eq_true, upd_ne, a3, a4, a5, a6, upd_eq, Nat.reduceAdd, Int.cast_ofNat_Int] <;> rfl
  · refine ⟨_, congrArg (St.mk _) (by rw [z0]), by omega, ?_, ?_, ?_, ?_, ?_, ?_⟩ <;> simp -implicitDefEqProofs only [ne_eq, Nat.reduceEqDiff, not_false_eq_true, upd_ne, par1, upd_eq, Int.cast_ofNat_Int] <;> rfl
end Go.Proofs.Ytknmbiebnpojjaa.Sim

