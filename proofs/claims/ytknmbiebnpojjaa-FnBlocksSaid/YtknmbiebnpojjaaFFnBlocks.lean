/- A digest block by block: the law returns true. -/
import Derived.Test.YtknmbiebnpojjaaFDrawSha
import Derived.Test.YtknmbiebnpojjaaFDigS
import Derived.Test.YtknmbiebnpojjaaFSameInts
import Derived.Test.YtknmbiebnpojjaaFLawDr
namespace Go.Proofs.Ytknmbiebnpojjaa.Sim
open Go
set_option maxRecDepth 100000
set_option maxHeartbeats 40000000
set_option linter.unusedSimpArgs false
set_option linter.unusedVariables false
def cutB (z : ByteArray) (n : Int) : ByteArray := if 1 ≤ n ∧ n ≤ 32 then (dig z).extract 0 n.toNat else ByteArray.empty
theorem cdB (z : ByteArray) (n : Int) (hz : z.size ≤ 1000000000) : Fn Try.prog 16 [.sc (.string z), .sc (.int .i64 n)] (.sc (.string (cutB z n))) := by
  refine Fn.run 12 [.tmp 4] Try.func16 rfl rfl rfl rfl (by simp) (flats_cons (.sc _) (flats_cons (.sc _) flats_nil)) (.sc _) ?_
  simp -implicitDefEqProofs only [↓w_seq, ↓w_region, ↓ops_cons, ↓g_assign, ↓ops_nil, ev_const, of_str, ↓g_move, Nat.reduceLT, ev_tab, ne_eq, Nat.reduceEqDiff, not_false_eq_true, upd_ne, par1]
  refine call1 (by simp -implicitDefEqProofs only [List.map_cons, Nat.reduceLT, ev_tab, upd_eq, ev_const, of_int, List.map_nil] <;> rfl) (inI n 1 32) ?_
  by_cases h : 1 ≤ n ∧ n ≤ 32
  · have hd : decide (1 ≤ n ∧ n ≤ 32) = true := decide_eq_true h
    rw [hd]
    simp -implicitDefEqProofs only [↓ops_cons, ↓g_unOp, Nat.reduceLT, ev_tab, upd_eq, u_not, Bool.not_true, Option.map_some, ↓ops_nil, ↓w_cond, ↓w_seq, ↓w_region, ↓g_assign, ↓w_ret, ev_const, of_str, ret_one, ↓w_skip, ↓g_move, ne_eq, reduceCtorEq, not_false_eq_true, upd_ne, par0, onS_some, onB_false]
    refine call1 (by simp -implicitDefEqProofs only [List.map_cons, Nat.reduceLT, ev_tab, upd_eq, List.map_nil] <;> rfl) (digI z hz) ?_
    have k0 : 0 ≤ n := by omega
    have k1 : n.toNat ≤ 32 := by omega
    simp -implicitDefEqProofs only [↓ops_cons, ↓g_move, ↓g_slice, Try.underlying9, Nat.reduceLT, ev_tab, ne_eq, Nat.reduceEqDiff, not_false_eq_true, upd_ne, par1, upd_eq, Option.map_none, Option.map_some, cut_str, bnd_none, dig_size, bnd_int, k0, if_true, cutS_some, Nat.zero_le, k1, and_self, ↓g_assign, ↓ops_nil, ↓w_ret, ret_one, onS_some]
    rw [cutB, if_pos h]
  · have hd : decide (1 ≤ n ∧ n ≤ 32) = false := decide_eq_false h
    rw [hd]
    simp -implicitDefEqProofs only [↓ops_cons, ↓g_unOp, Nat.reduceLT, ev_tab, upd_eq, u_not, Bool.not_false, Option.map_some, ↓ops_nil, ↓w_cond, ↓w_seq, ↓w_region, ↓g_assign, ↓w_ret, ev_const, of_str, ret_one, ↓w_skip, ↓g_move, ne_eq, reduceCtorEq, not_false_eq_true, upd_ne, par0, onS_some, onB_true]
    rw [cutB, if_neg h]
    rfl
theorem padT_beg (z : ByteArray) : (padT z).extract 0 z.size = z := by
  apply nums_inj
  have h : padT z = z ++ strOfNums (128 :: (List.replicate (zeros z.size) 0 ++ hiL (8 * (z.size : Int)) 8)) := by
    rw [padT, padL, ← son_append, son_nums]
  rw [nums_extract, h, nums_append, List.drop_zero, List.take_append_of_le_length (by rw [nums_len]; exact Nat.le_refl _), List.take_of_length_le (by rw [nums_len]; exact Nat.le_refl _)]
theorem lawFnBlocks (H : AHeap) (x : AV) (L : List Int) (hL0 : L.length ≤ 9223372036854775807) (hx : IsL H x .u8 L) : ∃ H', Sound Try.prog 3 [x] H (.sc (.bool true)) H' := by
  have key : ∃ v H', Sound Try.prog 3 [x] H v H' ∧ v = .sc (.bool true) := by
    refine Sound.runP (args := [x]) 118 [.tmp 2] Try.func3 rfl rfl rfl rfl (by simp) (fun v Z => v = .sc (.bool true)) ?_
    have hb := bigS hx
    by_cases hL : L.length ≤ 1048576
    · rw [bigNo hL] at hb
      replace hL : L.length ≤ 4000000 := by omega
      simp -implicitDefEqProofs only [↓w_seq, ↓w_region, ↓ops_cons, ↓g_assign, ↓ops_nil, ev_const, of_bool, ↓g_move, Nat.reduceLT, ev_tab, ne_eq, reduceCtorEq, not_false_eq_true, upd_ne, par0]
      refine call1S (by simp -implicitDefEqProofs only [List.map_cons, Nat.reduceLT, ev_tab, upd_eq, List.map_nil] <;> rfl) hb ?_
      obtain ⟨z, Z1, hz, b1, e1⟩ := drawTextOf hx hL
      simp -implicitDefEqProofs only [↓ops_nil, ↓w_cond, Nat.reduceLT, ev_tab, upd_eq, ↓w_seq, ↓w_region, ↓ops_cons, ↓g_assign, ↓w_ret, ev_const, of_bool, retP_1, res_tmp, onS_some, ↓w_skip, ↓g_move, ne_eq, reduceCtorEq, not_false_eq_true, upd_ne, par0, onB_false]
      refine call1S (by simp -implicitDefEqProofs only [List.map_cons, Nat.reduceLT, ev_tab, upd_eq, List.map_nil] <;> rfl) b1 ?_
      simp -implicitDefEqProofs only [↓ops_cons, ↓g_assign, ↓ops_nil, ↓w_seq, ↓w_region, Nat.reduceLT, ev_tab, upd_eq, ↓g_move]
      refine call1 (by simp -implicitDefEqProofs only [List.map_cons, Nat.reduceLT, ev_tab, upd_eq, List.map_nil] <;> rfl) (padI z (by omega)) ?_
      simp -implicitDefEqProofs only [↓ops_cons, ↓g_assign, ↓ops_nil, ↓w_seq, ↓w_region, Nat.reduceLT, ev_tab, upd_eq]
      refine call1L (by simp -implicitDefEqProofs only [List.map_nil] <;> rfl) startI ?_
      have hpl := padT_le z
      obtain ⟨m, hm, hm1⟩ := padT_64 z
      have hd : (padT z).size / 64 = m := by omega
      have hsz := padT_size z
      have h0 : ((padT z).size : Int).tmod 64 = 0 := by rw [Int.tmod_eq_emod_of_nonneg (by omega)]; omega
      have h1 : ¬ ((padT z).size : Int) < (z.size : Int) + 9 := by omega
      have w1 : IntKind.i64.wrap ((z.size : Int) + 9) = (z.size : Int) + 9 := w64 (by omega) (by omega)
      have h2 := padT_beg z
      have h3 : z.size ≤ (padT z).size := by omega
      have h4 : (0 : Int) ≤ z.size := by omega
      have hdl : digL z = wby (blks (padT z) m).l := by rw [digL, hd]
      have hdz : dig z = strOfNums (wby (blks (padT z) m).l) := by rw [dig, hdl]
      have hl8 : (blks (padT z) m).l.length = 8 := rfl
      have ex1 : Ext Z1 (Z1 ++ [⟨ints .i64 (wis start.l), true, true⟩]) := Ext.more _ _
      have dI := digI z (by omega)
      have dS := digS z (by omega)
      have dC := cdB z 5 (by omega)
      have dsz := dig_size z
      have dsz5 : (5 : Int).toNat ≤ 32 := by decide
      have hc5 : cutB z 5 = (dig z).extract 0 5 := by rw [cutB, if_pos (by decide)]; rfl
      rw [hc5] at dC
      simp -implicitDefEqProofs only [↓ops_cons, ↓g_assign, ↓ops_nil, ↓w_seq, ↓w_region, Nat.reduceLT, ev_tab, upd_eq, ↓g_move, ↓g_len, Try.underlying9, ne_eq, Nat.reduceEqDiff, not_false_eq_true, upd_ne, len_str, ↓g_binOp, ev_const, of_int, onS_some, b_rem, Int.reduceEq, h0, if_false, b_neq, decide_true, Bool.not_true, yielded_tab, dstAt_s, dstAt_0, ybv_some, boolOf_b, ↓g_guard_t, ↓g_pick, of_bool, pick_b, Bool.false_eq_true, b_add, w1, b_lss, h1, decide_false, ↓g_slice, Option.map_none, Option.map_some, cut_str, bnd_none, ↓w_cond, ↓w_ret, retP_1, res_tmp, ↓w_skip, ↓w_block, bnd_int, h4, Int.toNat_natCast, if_true, cutS_some, Nat.zero_le, h3, and_self, h2, t_neq, beq_self_eq_true, onB_false]
      refine w_loop (ι := Nat) (fun n s => ∃ (T : Nat → AV) (G : AHeap) (r : Nat), s = ⟨tab 118 T, G⟩ ∧ n ≤ m ∧ Ext Z1 G ∧ G[r]? = some ⟨ints .i64 (wis (blks (padT z) n).l), true, true⟩ ∧ T 0 = x ∧ T 3 = .sc (.string z) ∧ T 5 = .sl r 0 8 1 ∧ T 4 = .sc (.string (padT z)) ∧ T 6 = .sc (.int .i64 ((64 * n : Nat) : Int))) (fun n => m - n) ?_ (i := 0) ?_
      · rintro n s ⟨T, G, r, rfl, a1, eG, a2, t0, t3, t5, t4, t6⟩
        by_cases h : n < m
        · have k1 : ((64 * n : Nat) : Int) < (padT z).size := by omega
          have e1 : IntKind.i64.wrap (((64 * n : Nat) : Int) + 64) = ((64 * n + 64 : Nat) : Int) := by rw [w64 (by omega) (by omega)]; omega
          have k2 : (0 : Int) ≤ ((64 * n : Nat) : Int) := by omega
          have k3 : (0 : Int) ≤ ((64 * n + 64 : Nat) : Int) := by omega
          have k4 : 64 * n ≤ 64 * n + 64 := by omega
          have k5 : 64 * n + 64 ≤ (padT z).size := by omega
          simp -implicitDefEqProofs only [↓w_seq, ↓w_region, ↓ops_cons, ↓g_move, ↓g_len, Try.underlying9, Nat.reduceLT, ev_tab, t6, ne_eq, Nat.reduceEqDiff, not_false_eq_true, upd_ne, t4, upd_eq, len_str, ↓g_binOp, ↓ops_nil, ↓w_cond, ↓w_skip, ↓w_block, t5, ev_const, of_int, b_add, e1, ↓g_slice, Option.map_some, cut_str, bnd_int, k2, Int.toNat_natCast, if_true, onS_some, k3, cutS_some, k4, k5, and_self, ↓w_exit, ↓g_assign, of_str, b_lss, k1, decide_true, onB_true]
          have hx6 : ((padT z).extract (64 * n) (64 * n + 64)).size = 64 := by rw [ByteArray.size_extract]; omega
          refine call1S (by simp -implicitDefEqProofs only [List.map_cons, Nat.reduceLT, ev_tab, ne_eq, Nat.reduceEqDiff, not_false_eq_true, upd_ne, upd_eq, List.map_nil] <;> rfl) (blockA G r (blks (padT z) n) _ hx6 true a2) ?_
          simp -implicitDefEqProofs only [↓ops_cons, ↓g_assign, ↓ops_nil, ↓w_region, Nat.reduceLT, ev_tab, upd_eq, ↓g_move, ↓g_binOp, ne_eq, Nat.reduceEqDiff, not_false_eq_true, upd_ne, t6, ev_const, of_int, b_add, e1, onS_some]
          refine ⟨n + 1, by omega, _, _, G.length, rfl, by omega, eG.add _, ?_, ?_, ?_, ?_, ?_, ?_⟩
          · rw [List.getElem?_append_right (by omega), Nat.sub_self]
            rfl
          · simp -implicitDefEqProofs only [ne_eq, reduceCtorEq, not_false_eq_true, upd_ne, t0]
          · simp -implicitDefEqProofs only [ne_eq, Nat.reduceEqDiff, not_false_eq_true, upd_ne, t3]
          · simp -implicitDefEqProofs only [ne_eq, Nat.reduceEqDiff, not_false_eq_true, upd_ne, upd_eq]
          · simp -implicitDefEqProofs only [ne_eq, Nat.reduceEqDiff, not_false_eq_true, upd_ne, t4]
          · simp -implicitDefEqProofs only [upd_eq] <;> rfl
        · have k1 : ¬ ((64 * n : Nat) : Int) < (padT z).size := by omega
          have hn : n = m := by omega
          subst hn
          generalize (blks (padT z) n).l = K at *
          simp -implicitDefEqProofs only [↓w_seq, ↓w_region, ↓ops_cons, ↓g_move, ↓g_len, Try.underlying9, Nat.reduceLT, ev_tab, t6, ne_eq, Nat.reduceEqDiff, not_false_eq_true, upd_ne, t4, upd_eq, len_str, ↓g_binOp, ↓ops_nil, ↓w_cond, ↓w_skip, ↓w_block, t5, ev_const, of_int, b_add, ↓g_slice, Option.map_some, cut_str, bnd_int, onS_some, ↓w_exit, ↓g_assign, of_str, if_true, b_lss, k1, decide_false, onB_false]
          refine w_loop (ι := Nat) (fun i s => ∃ (T : Nat → AV) (Y : AHeap), s = ⟨tab 118 T, Y⟩ ∧ i ≤ 8 ∧ Ext G Y ∧ T 0 = x ∧ T 3 = .sc (.string z) ∧ T 7 = .sc (.string (strOfNums (wby (K.take i)))) ∧ T 5 = .sl r 0 8 1 ∧ T 8 = .sc (.int .i64 i)) (fun i => 8 - i) ?_ (i := 0) ?_
          · rintro i s ⟨T, Y, rfl, b1, eY, t0, t3, t7, t5, t8⟩
            have a3 := eY.at a2
            by_cases hi : i < 8
            · have j1 : (i : Int) < 8 := by omega
              have j0 : (0 : Int) ≤ i := by omega
              have e1 : IntKind.i64.wrap ((i : Int) + 1) = i + 1 := w64 (by omega) (by omega)
              have a4 : ∀ g : Reg, (Y ++ [g])[Y.length]? = some g := fun g => at_end _ _
              have hb4 : [IntKind.u8.wrap (wi (K.getD i 0) / 16777216), IntKind.u8.wrap (wi (K.getD i 0) / 65536), IntKind.u8.wrap (wi (K.getD i 0) / 256), IntKind.u8.wrap (wi (K.getD i 0))] = hiL (wi (K.getD i 0)) 4 := by
                rw [by3, by2, by1, by0, ← hiL4_eq]
              have hll : (hiL (wi (K.getD i 0)) 4).length = 4 := hiL_len _ _
              have hlt : (hiL (wi (K.getD i 0)) 4).take 4 = hiL (wi (K.getD i 0)) 4 := List.take_of_length_le (Nat.le_of_eq hll)
              have hwt := wby_take K i (by omega)
              simp -implicitDefEqProofs only [↓w_seq, ↓w_region, ↓ops_cons, ↓g_move, ↓g_binOp, Nat.reduceLT, ev_tab, t8, upd_eq, ev_const, of_int, b_lss, j1, decide_true, ↓ops_nil, ↓w_cond, ↓w_skip, ↓w_block, ↓w_exit, ne_eq, reduceCtorEq, not_false_eq_true, upd_ne, if_true, onS_some, onB_true]
              refine drawn [(4, 0), (10, 0), (16, 0), (22, 0), (25, 0)] follows (by kernel_rfl) (by kernel_rfl) ?_
              simp -implicitDefEqProofs only [↓dops_cons, ↓g_move, ↓g_indexAddr, Try.underlying26, Nat.reduceLT, ev_tab, ne_eq, Nat.reduceEqDiff, not_false_eq_true, upd_ne, t7, t5, t8, upd_eq, adr_sl, j0, Int.cast_ofNat_Int, j1, cells3, tyOk3, and_self, Int.toNat_natCast, Nat.mul_one, Nat.zero_add, if_true, ↓g_load, ↓g_binOp, ev_const, of_int, ↓g_convert, Try.underlying3, Try.underlying5, ↓g_buildSlice, Try.underlying22, List.map_cons, List.map_nil, Try.underlying9, ↓g_assign, ↓dops_p, ↓w_region, ↓ops_cons, b_add, ↓ops_nil, onS_some, rd_def, agg3, a3, rd_ints, wis_len, hl8, hi, wis_get, b_shr, Int.reduceLT, Int.reduceToNat, bits_i64, Nat.reduceLeDiff, Nat.min_eq_left, Int.reducePow, if_false, c_int, bs5_4, hb4, alK_some, ints_one, c_text, isU5, at_def, at_end, at_ints, hll, Nat.le_refl, List.drop_zero, hlt, Option.bind_some, bytesA_ints, Option.map_some, t_add, son_size, wby_len, List.length_take, son_append, hwt, onS_ite, true_and]
              refine ⟨by omega, ?_⟩
              refine ⟨pairs_cons (same_calm (by kernel_rfl)) (pairs_cons (same_calm (by kernel_rfl)) (pairs_cons (same_calm (by kernel_rfl)) (pairs_cons (same_calm (by kernel_rfl)) (pairs_cons (same_calm (by kernel_rfl)) (pairs_nil))))), ?_⟩
              simp -implicitDefEqProofs only [e1]
              refine ⟨i + 1, by omega, _, _, rfl, by omega, eY.add _, ?_, ?_, ?_, ?_, ?_⟩ <;> simp -implicitDefEqProofs only [ne_eq, reduceCtorEq, not_false_eq_true, upd_ne, t0, Nat.reduceEqDiff, t3, upd_eq, t5] <;> rfl
            · have j1 : ¬ (i : Int) < 8 := by omega
              have hi8 : i = 8 := by omega
              subst hi8
              have hk : K.take 8 = K := List.take_of_length_le (by omega)
              rw [hk, ← hdz] at t7
              obtain ⟨y, z', Z3, sA, s1, s2⟩ := drawShaBlock (((e1.trans eG).trans eY).isL hx) hL
              obtain ⟨out, o1, o2, o3⟩ := shaBoth sA
              obtain ⟨qI, X4, i1, i2, i3⟩ := o2 Z3 (Ext.refl _)
              obtain ⟨qS, X5, j1', j2, j3⟩ := o3 X4 i2
              have sT := sameIntsT (IsL.mk (j2.at i3)) (IsL.mk j3) (by omega)
              generalize dig z = D at *
              have dsz2 : (D.size : Int) = 32 := by omega
              simp -implicitDefEqProofs only [↓w_seq, ↓w_region, Nat.reduceSub, ↓ops_cons, ↓g_move, ↓g_binOp, Nat.reduceLT, ev_tab, t8, Int.cast_ofNat_Int, upd_eq, ev_const, of_int, b_lss, Int.reduceLT, decide_false, ↓ops_nil, ↓w_cond, ↓w_skip, ↓w_block, ↓w_exit, ne_eq, reduceCtorEq, not_false_eq_true, upd_ne, t0, if_true, onS_some, onB_false]
              refine call1S (by simp -implicitDefEqProofs only [List.map_cons, Nat.reduceLT, ev_tab, upd_eq, List.map_nil] <;> rfl) s1 ?_
              simp -implicitDefEqProofs only [↓ops_cons, ↓g_move, ↓g_extract, Nat.reduceLT, ev_tab, upd_eq, ext_0, ne_eq, Nat.reduceEqDiff, not_false_eq_true, upd_ne, ext_1, ↓g_assign, ↓ops_nil, ↓w_seq, onS_some]
              refine drawn [] follows (by kernel_rfl) (by kernel_rfl) ?_
              simp -implicitDefEqProofs only [↓dops_cons, ↓g_move, Nat.reduceLT, ev_tab, ne_eq, Nat.reduceEqDiff, not_false_eq_true, upd_ne, t7, t3]
              refine call1 (by simp -implicitDefEqProofs only [List.map_cons, Nat.reduceLT, ev_tab, upd_eq, List.map_nil] <;> rfl) dI ?_
              simp -implicitDefEqProofs only [↓dops_cons, ↓g_binOp, Nat.reduceLT, ev_tab, ne_eq, Nat.reduceEqDiff, not_false_eq_true, upd_ne, upd_eq, t_eql, beq_self_eq_true, ↓g_move, onS_some, yielded_tab, dstAt_s, dstAt_0, ybv_some, boolOf_b, ↓g_guard_t, t7, t3]
              refine call1 (by simp -implicitDefEqProofs only [List.map_cons, Nat.reduceLT, ev_tab, upd_eq, List.map_nil] <;> rfl) dS ?_
              simp -implicitDefEqProofs only [↓dops_cons, yielded_tab, dstAt_s, dstAt_0, Nat.reduceLT, ybv_some, ne_eq, Nat.reduceEqDiff, not_false_eq_true, upd_ne, upd_eq, boolOf_b, ↓g_guard_t, ↓g_binOp, ev_tab, t_eql, beq_self_eq_true, ↓g_pick, ev_const, of_bool, pick_b, if_true, ↓g_move, onS_some, t7, ↓g_len, Try.underlying9, len_str, dsz2, of_int, b_eql, decide_true, t3]
              refine call1 (by simp -implicitDefEqProofs only [List.map_cons, Nat.reduceLT, ev_tab, upd_eq, ev_const, of_int, List.map_nil] <;> rfl) dC ?_
              simp -implicitDefEqProofs only [↓dops_cons, yielded_tab, dstAt_s, dstAt_0, Nat.reduceLT, ybv_some, ne_eq, Nat.reduceEqDiff, not_false_eq_true, upd_ne, upd_eq, boolOf_b, ↓g_guard_t, ↓g_move, ev_tab, t7, ↓g_slice, Try.underlying9, Option.map_none, Option.map_some, ev_const, of_int, cut_str, bnd_none, dsz, bnd_int, Int.reduceLE, Int.reduceToNat, if_true, cutS_some, Nat.reduceLeDiff, and_self, ↓g_binOp, ↓g_pick, of_bool, pick_b, onS_some, t_eql, beq_self_eq_true]
              refine call1S (by simp -implicitDefEqProofs only [List.map_cons, Nat.reduceLT, ev_tab, ne_eq, Nat.reduceEqDiff, not_false_eq_true, upd_ne, upd_eq, List.map_nil] <;> rfl) i1 ?_
              simp -implicitDefEqProofs only [↓dops_cons, yielded_tab, dstAt_s, dstAt_0, Nat.reduceLT, ybv_some, ne_eq, Nat.reduceEqDiff, not_false_eq_true, upd_ne, upd_eq, boolOf_b, ↓g_guard_t, ↓g_move, ev_tab]
              refine call1S (by simp -implicitDefEqProofs only [List.map_cons, Nat.reduceLT, ev_tab, ne_eq, Nat.reduceEqDiff, not_false_eq_true, upd_ne, upd_eq, List.map_nil] <;> rfl) j1' ?_
              simp -implicitDefEqProofs only [↓dops_cons, yielded_tab, dstAt_s, dstAt_0, Nat.reduceLT, ybv_some, ne_eq, Nat.reduceEqDiff, not_false_eq_true, upd_ne, upd_eq, boolOf_b, ↓g_guard_t]
              refine call1S (by simp -implicitDefEqProofs only [List.map_cons, Nat.reduceLT, ev_tab, ne_eq, Nat.reduceEqDiff, not_false_eq_true, upd_ne, upd_eq, List.map_nil] <;> rfl) sT ?_
              simp -implicitDefEqProofs only [↓dops_cons, ↓g_pick, Nat.reduceLT, ev_tab, ne_eq, Nat.reduceEqDiff, not_false_eq_true, upd_ne, upd_eq, ev_const, of_bool, pick_b, if_true, ↓g_assign, ↓dops_0, ↓w_ret, retP_1, res_tmp, onS_some]
          · refine ⟨_, _, rfl, by omega, Ext.refl _, ?_, ?_, ?_, ?_, ?_⟩ <;> simp -implicitDefEqProofs only [ne_eq, reduceCtorEq, not_false_eq_true, upd_ne, t0, Nat.reduceEqDiff, t3, upd_eq, List.take_zero, t5, Int.cast_ofNat_Int] <;> rfl
      · refine ⟨_, _, Z1.length, rfl, by omega, ex1, at_end _ _, ?_, ?_, ?_, ?_, ?_⟩ <;> simp -implicitDefEqProofs only [ne_eq, reduceCtorEq, not_false_eq_true, upd_ne, par0, Nat.reduceEqDiff, upd_eq, Nat.reduceMul, Int.cast_ofNat_Int] <;> rfl
    · rw [bigYes hL] at hb
      simp -implicitDefEqProofs only [↓w_seq, ↓w_region, ↓ops_cons, ↓g_assign, ↓ops_nil, ev_const, of_bool, ↓g_move, Nat.reduceLT, ev_tab, ne_eq, reduceCtorEq, not_false_eq_true, upd_ne, par0]
      refine call1S (by simp -implicitDefEqProofs only [List.map_cons, Nat.reduceLT, ev_tab, upd_eq, List.map_nil] <;> rfl) hb ?_
      simp -implicitDefEqProofs only [↓ops_nil, ↓w_cond, Nat.reduceLT, ev_tab, upd_eq, ↓w_seq, ↓w_region, ↓ops_cons, ↓g_assign, ↓w_ret, ev_const, of_bool, retP_1, res_tmp, onS_some, ↓w_skip, ↓g_move, ne_eq, reduceCtorEq, not_false_eq_true, upd_ne, par0, onB_true]
  obtain ⟨v, H', h1, rfl⟩ := key
  exact ⟨H', h1⟩
end Go.Proofs.Ytknmbiebnpojjaa.Sim

