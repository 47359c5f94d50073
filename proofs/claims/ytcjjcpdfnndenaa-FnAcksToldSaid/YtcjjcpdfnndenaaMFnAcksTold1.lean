/- Texts of this proof, put together. -/
import Derived.Test.YtcjjcpdfnndenaaTy
import Derived.Test.YtcjjcpdfnndenaaChecked
namespace Go.Proofs.Ytcjjcpdfnndenaa.Sim
open Go
set_option maxRecDepth 100000
set_option linter.unusedSimpArgs false
set_option linter.unusedVariables false
theorem inS (a lo hi : Int) : Fn Try.prog 51 [.sc (.int .i64 a), .sc (.int .i64 lo), .sc (.int .i64 hi)] (.sc (.bool (decide (lo ≤ a ∧ a ≤ hi)))) := by
  refine Fn.run 15 [.tmp 6] Try.func51 rfl rfl rfl rfl (by simp) (flats_cons (.sc _) (flats_cons (.sc _) (flats_cons (.sc _) flats_nil))) (.sc _) ?_
  by_cases h1 : lo ≤ a <;> by_cases h2 : a ≤ hi <;> simp +decide -implicitDefEqProofs only [↓w_seq, ↓w_skip, ↓w_ret, ↓w_exit, ↓w_block, ↓w_cond, ↓w_region, ↓ops_nil, ↓ops_cons, ↓dops_0, ↓dops_p, ↓dops_cons, ↓g_move, ↓g_assign, ↓g_binOp, ↓g_unOp, ↓g_pick, ↓g_len, ↓g_index, ↓g_indexAddr, ↓g_slice, ↓g_convert, ↓g_load, ↓g_store, ↓g_extract, ↓g_nilCheck, ↓g_fieldT, ↓g_fieldAddrT, of_agg, rd_aggc, rd_onec, wr_c, cells_int, cells_str, cells_bool, cells_nil, cells_sl, cells_ptr, cells_agg, one_int, one_str, one_bool, one_nil, one_sl, one_ptr, over_0, over_s, List.all_cons, List.all_nil, Bool.and_true, Bool.and_self, List.getElem?_nil, List.drop_succ_cons, List.drop_nil, ↓g_call, ↓g_guard_t, ↓g_guard_f, ↓g_alloc, ↓g_box, ↓g_buildSlice, ↓g_makeSlice, ↓g_buildV, rdA, wrA, ints_one, List.length_replicate, bools_one, strs_one, rd_bools, rd_strs, wr_bools, wr_strs, at_bools, at_strs, ap_bools, ap_boolsN, ap_strs, ap_strsN, ↓g_append, src_sl, src_nil, src_str, ap_ints, ap_intsN, kill_len, kill_0, kill_s, bnd_none, bnd_int, cut_str, cutS_some, cut_sl, cutL_some, bits_i64, bits_u32, bits_u8, List.getD_cons_zero, List.getD_cons_succ, at_end, at_a, at_b, yielded_tab, dstAt_0, dstAt_s, ybv_some, boolOf_b, ext_0, ext_1, ext_2, ext_3, alK_some, ev_tab, ev_const, upd_eq, upd_ne, par0, par1, par2, par3, par4, par5, of_int, of_str, of_bool, len_str, len_arr, len_sl, idx_str, adr_sl, adr_arr, c_int, c_str, c_bytes, c_text, pick_b, onS_some, onS_ite, onS_not, b_add, b_sub, b_mul, b_and, b_or, b_xor, b_eql, b_neq, b_lss, b_leq, b_gtr, b_geq, b_shl, b_shr, b_quo, b_rem, t_add, t_eql, t_neq, v_eql, v_neq, b_andNot, u_not, onB_true, onB_false, onB_dec, onB_not, ret_cell, ret_ct, retP_0, retP_1, retP_2, retP_3, res_tmp, res_cell, ret_one, ret_two, ret_three, ret_none, List.set_set, if_true, if_false, ite_true, ite_false, List.map_cons, List.map_nil, Option.map_some, Option.map_none, List.toList_toArray, rd_def, rd_ints, wr_def, wr_ints, at_def, at_ints, bytes_ints, bytesA_ints, ints_set, nums_len, List.length_nil, List.length_cons, List.length_set, List.length_append, List.nil_append, List.cons_append, List.getElem?_cons_zero, List.getElem?_cons_succ, List.set_cons_zero, List.set_cons_succ, List.drop_zero, List.take_succ_cons, List.take_zero, List.take_length, Option.bind_some, true_and, and_true, Nat.zero_add, Nat.mul_one, Int.toNat_zero, Int.reduceToNat, Int.reduceAdd, Int.reduceSub, Int.reduceMul, Int.reduceNeg, Nat.reduceAdd, Nat.reduceSub, Nat.reduceMul, Nat.reducePow, Nat.min_eq_left, Int.reducePow, Nat.le_refl, Int.cast_ofNat_Int, Nat.reduceLT, Nat.reduceLeDiff, Nat.reduceEqDiff, Int.reduceLE, Int.reduceLT, Int.reduceEq, ne_eq, not_false_eq_true, not_true_eq_false, reduceCtorEq, decide_true, decide_false, and_self, and_false, false_and, Bool.not_true, Bool.not_false, h1, h2] <;> simp [h1, h2]
theorem inI (a lo hi : Int) : Fn Try.prog 52 [.sc (.int .i64 a), .sc (.int .i64 lo), .sc (.int .i64 hi)] (.sc (.bool (decide (lo ≤ a ∧ a ≤ hi)))) := by
  refine Fn.run 15 [.tmp 6] Try.func52 rfl rfl rfl rfl (by simp) (flats_cons (.sc _) (flats_cons (.sc _) (flats_cons (.sc _) flats_nil))) (.sc _) ?_
  by_cases h1 : lo ≤ a <;> by_cases h2 : a ≤ hi <;> simp +decide -implicitDefEqProofs only [↓w_seq, ↓w_skip, ↓w_ret, ↓w_exit, ↓w_block, ↓w_cond, ↓w_region, ↓ops_nil, ↓ops_cons, ↓dops_0, ↓dops_p, ↓dops_cons, ↓g_move, ↓g_assign, ↓g_binOp, ↓g_unOp, ↓g_pick, ↓g_len, ↓g_index, ↓g_indexAddr, ↓g_slice, ↓g_convert, ↓g_load, ↓g_store, ↓g_extract, ↓g_nilCheck, ↓g_fieldT, ↓g_fieldAddrT, of_agg, rd_aggc, rd_onec, wr_c, cells_int, cells_str, cells_bool, cells_nil, cells_sl, cells_ptr, cells_agg, one_int, one_str, one_bool, one_nil, one_sl, one_ptr, over_0, over_s, List.all_cons, List.all_nil, Bool.and_true, Bool.and_self, List.getElem?_nil, List.drop_succ_cons, List.drop_nil, ↓g_call, ↓g_guard_t, ↓g_guard_f, ↓g_alloc, ↓g_box, ↓g_buildSlice, ↓g_makeSlice, ↓g_buildV, rdA, wrA, ints_one, List.length_replicate, bools_one, strs_one, rd_bools, rd_strs, wr_bools, wr_strs, at_bools, at_strs, ap_bools, ap_boolsN, ap_strs, ap_strsN, ↓g_append, src_sl, src_nil, src_str, ap_ints, ap_intsN, kill_len, kill_0, kill_s, bnd_none, bnd_int, cut_str, cutS_some, cut_sl, cutL_some, bits_i64, bits_u32, bits_u8, List.getD_cons_zero, List.getD_cons_succ, at_end, at_a, at_b, yielded_tab, dstAt_0, dstAt_s, ybv_some, boolOf_b, ext_0, ext_1, ext_2, ext_3, alK_some, ev_tab, ev_const, upd_eq, upd_ne, par0, par1, par2, par3, par4, par5, of_int, of_str, of_bool, len_str, len_arr, len_sl, idx_str, adr_sl, adr_arr, c_int, c_str, c_bytes, c_text, pick_b, onS_some, onS_ite, onS_not, b_add, b_sub, b_mul, b_and, b_or, b_xor, b_eql, b_neq, b_lss, b_leq, b_gtr, b_geq, b_shl, b_shr, b_quo, b_rem, t_add, t_eql, t_neq, v_eql, v_neq, b_andNot, u_not, onB_true, onB_false, onB_dec, onB_not, ret_cell, ret_ct, retP_0, retP_1, retP_2, retP_3, res_tmp, res_cell, ret_one, ret_two, ret_three, ret_none, List.set_set, if_true, if_false, ite_true, ite_false, List.map_cons, List.map_nil, Option.map_some, Option.map_none, List.toList_toArray, rd_def, rd_ints, wr_def, wr_ints, at_def, at_ints, bytes_ints, bytesA_ints, ints_set, nums_len, List.length_nil, List.length_cons, List.length_set, List.length_append, List.nil_append, List.cons_append, List.getElem?_cons_zero, List.getElem?_cons_succ, List.set_cons_zero, List.set_cons_succ, List.drop_zero, List.take_succ_cons, List.take_zero, List.take_length, Option.bind_some, true_and, and_true, Nat.zero_add, Nat.mul_one, Int.toNat_zero, Int.reduceToNat, Int.reduceAdd, Int.reduceSub, Int.reduceMul, Int.reduceNeg, Nat.reduceAdd, Nat.reduceSub, Nat.reduceMul, Nat.reducePow, Nat.min_eq_left, Int.reducePow, Nat.le_refl, Int.cast_ofNat_Int, Nat.reduceLT, Nat.reduceLeDiff, Nat.reduceEqDiff, Int.reduceLE, Int.reduceLT, Int.reduceEq, ne_eq, not_false_eq_true, not_true_eq_false, reduceCtorEq, decide_true, decide_false, and_self, and_false, false_and, Bool.not_true, Bool.not_false, h1, h2] <;> simp [h1, h2]
end Go.Proofs.Ytcjjcpdfnndenaa.Sim
namespace Go.Proofs.Ytcjjcpdfnndenaa.Sim
open Go
set_option maxRecDepth 100000
set_option maxHeartbeats 4000000
set_option linter.unusedSimpArgs false
set_option linter.unusedVariables false
def varN (n : Nat) : List Int := if 127 < n then ((n % 128 + 128 : Nat) : Int) :: varN (n / 128) else [(n : Int)]
termination_by n
decreasing_by omega
theorem varN_big {n : Nat} (h : 127 < n) : varN n = ((n % 128 + 128 : Nat) : Int) :: varN (n / 128) := by rw [varN, if_pos h]
theorem varN_small {n : Nat} (h : ¬ 127 < n) : varN n = [(n : Int)] := by rw [varN, if_neg h]
theorem varN_len (k : Nat) : ∀ n, n < 128 ^ (k + 1) → (varN n).length ≤ k + 1 := by
  induction k with
  | zero =>
    intro n h
    rw [varN_small (by omega)]
    simp
  | succ k ih =>
    intro n h
    by_cases hb : 127 < n
    · rw [varN_big hb]
      have : n / 128 < 128 ^ (k + 1) := by
        rw [Nat.div_lt_iff_lt_mul (by decide)]
        rw [Nat.pow_succ] at h
        exact h
      have := ih _ this
      simp only [List.length_cons]
      omega
    · rw [varN_small hb]
      simp
theorem varN_5 (n : Nat) (h : n ≤ 1000000000) : (varN n).length ≤ 5 := varN_len 4 n (by omega)
def varT (n : Nat) : ByteArray := strOfNums (varN n)
theorem at_kill2 (G : AHeap) (X Y g : Reg) : (killReg ((G ++ [X]) ++ [Y]) G.length ++ [g])[G.length + 1 + 1]? = some g := by
  have := at_end (killReg ((G ++ [X]) ++ [Y]) G.length) g
  rwa [kill_len, List.length_append, List.length_append] at this
theorem varS (n : Nat) (hn : n ≤ 1000000000) : Fn Try.prog 45 [.sc (.int .i64 n)] (.sc (.string (varT n))) := by
  refine Fn.run 22 [.tmp 2] Try.func45 rfl rfl rfl rfl (by simp) (flats_cons (.sc _) flats_nil) (.sc _) ?_
  simp -implicitDefEqProofs only [↓w_seq, ↓w_region, ↓ops_cons, ↓g_assign, ↓ops_nil, ev_const, of_str, ↓g_buildSlice, Try.underlying46, List.map_nil, bs5_0, ↓w_block, Nat.reduceLT, ev_tab, upd_eq, alK_some, ints_one, List.length_nil, List.nil_append, true_and]
  refine w_loop (ι := Nat) (fun c s => ∃ (T : Nat → AV) (G : AHeap) (A : List Int), s = ⟨tab 22 T, G ++ [⟨ints .u8 A, true, true⟩]⟩ ∧ c ≤ 1000000000 ∧ A.length ≤ 1000000000 - c ∧ A ++ varN c = varN n ∧ T 0 = .sc (.int .i64 c) ∧ T 3 = .sl G.length 0 A.length 1) (fun c => c) ?_ (i := n) ?_
  · rintro c s ⟨T, G, A, rfl, a0, a1, a2, a3, a4⟩
    have htk : A.take A.length = A := List.take_length
    by_cases h : 127 < c
    · have k1 : (127 : Int) < c := by omega
      have e1 : ((c : Int)).tmod 128 = ((c % 128 : Nat) : Int) := by rw [Int.tmod_eq_emod_of_nonneg (by omega)]; omega
      have e2 : IntKind.i64.wrap (((c % 128 : Nat) : Int) + 128) = ((c % 128 + 128 : Nat) : Int) := by rw [w64 (by omega) (by omega)]; omega
      have e3 : IntKind.u8.wrap ((c % 128 + 128 : Nat) : Int) = ((c % 128 + 128 : Nat) : Int) := u8_id (by omega) (by omega)
      have e4 : IntKind.i64.wrap (((c : Int)).tdiv 128) = ((c / 128 : Nat) : Int) := by rw [Int.tdiv_eq_ediv_of_nonneg (by omega), w64 (by omega) (by omega)]; omega
      rw [varN_big h] at a2
      simp -implicitDefEqProofs only [↓w_seq, ↓w_region, ↓ops_cons, ↓g_move, ↓g_binOp, Nat.reduceLT, ev_tab, a3, upd_eq, ev_const, of_int, b_gtr, k1, decide_true, ↓ops_nil, ↓w_cond, ↓w_skip, ↓w_block, ne_eq, Nat.reduceEqDiff, not_false_eq_true, upd_ne, a4, reduceCtorEq, b_rem, Int.reduceEq, e1, if_false, ↓g_convert, Try.underlying3, Try.underlying5, ↓g_buildSlice, Try.underlying46, List.map_cons, List.map_nil, ↓g_append, apS46, ↓g_assign, b_quo, e4, onS_some, b_add, e2, c_int, e3, bs5_1, alK_some, ints_one, at_a, List.length_append, List.length_cons, List.length_nil, Nat.zero_add, src_sl, at_b, at_ints, Nat.le_refl, List.drop_zero, List.take_succ_cons, List.take_zero, if_true, ap_ints, Nat.mul_one, Nat.reduceLeDiff, and_self, true_and, List.take_length, onS_ite, ↓w_exit, Try.underlying9, ↓w_ret, ret_one, c_text, isU5, at_def, onB_true]
      refine ⟨by omega, c / 128, by omega, _, _, A ++ [((c % 128 + 128 : Nat) : Int)], rfl, by omega, by simp; omega, by rw [List.append_assoc]; exact a2, ?_, ?_⟩
      · simp -implicitDefEqProofs only [upd_eq]
      · simp -implicitDefEqProofs only [ne_eq, reduceCtorEq, not_false_eq_true, upd_ne, Nat.reduceEqDiff, upd_eq, kill_len, List.length_append, List.length_cons, List.length_nil, Nat.zero_add]
        try simp only [kill_len, List.length_append, List.length_cons, List.length_nil]
        try rfl
    · have k1 : ¬ (127 : Int) < c := by omega
      have e3 : IntKind.u8.wrap (c : Int) = c := u8_id (by omega) (by omega)
      rw [varN_small h] at a2
      have hA : A.length + 1 = (varN n).length := by rw [← a2]; simp
      have h5 := varN_5 n hn
      have htk2 : (A ++ [(c : Int)]).take (A.length + 1) = A ++ [(c : Int)] := List.take_of_length_le (by simp)
      simp -implicitDefEqProofs only [↓w_seq, ↓w_region, ↓ops_cons, ↓g_move, ↓g_binOp, Nat.reduceLT, ev_tab, a3, upd_eq, ev_const, of_int, b_gtr, k1, decide_false, ↓ops_nil, ↓w_cond, ↓w_skip, ↓w_block, ne_eq, Nat.reduceEqDiff, not_false_eq_true, upd_ne, a4, reduceCtorEq, b_rem, Int.reduceEq, if_false, ↓g_convert, Try.underlying3, Try.underlying5, ↓g_buildSlice, Try.underlying46, List.map_cons, List.map_nil, ↓g_append, apS46, ↓g_assign, b_quo, onS_some, b_add, c_int, bs5_1, alK_some, ints_one, at_a, List.length_append, List.length_cons, List.length_nil, Nat.zero_add, src_sl, at_b, at_ints, Nat.le_refl, List.drop_zero, List.take_succ_cons, List.take_zero, if_true, ap_ints, Nat.mul_one, Nat.reduceLeDiff, and_self, true_and, List.take_length, onS_ite, ↓w_exit, Try.underlying9, ↓w_ret, ret_one, e3, c_text, isU5, at_def, at_kill2, htk2, Option.bind_some, bytesA_ints, Option.map_some, onB_false]
      refine ⟨by omega, ?_⟩
      rw [a2]
      rfl
  · refine ⟨_, [], [], rfl, hn, by simp, rfl, ?_, ?_⟩ <;> simp -implicitDefEqProofs only [ne_eq, reduceCtorEq, not_false_eq_true, upd_ne, par0, upd_eq, List.length_nil] <;> rfl
theorem varI (n : Nat) (hn : n ≤ 1000000000) : Fn Try.prog 47 [.sc (.int .i64 n)] (.tup [.sc (.string (varT n)), .sc (.bool true)]) := by
  refine Fn.run 26 [.tmp 2, .tmp 3] Try.func47 rfl rfl rfl rfl (by simp) (flats_cons (.sc _) flats_nil) (.tup (flats_cons (.sc _) (flats_cons (.sc _) flats_nil))) ?_
  simp -implicitDefEqProofs only [↓w_seq, ↓w_region, ↓ops_cons, ↓g_assign, ↓ops_nil, ev_const, of_str, of_bool, ↓g_move, Nat.reduceLT, ev_tab, ne_eq, reduceCtorEq, not_false_eq_true, upd_ne, par0]
  refine call1 (by simp -implicitDefEqProofs only [List.map_cons, Nat.reduceLT, ev_tab, upd_eq, ev_const, of_int, List.map_nil] <;> rfl) (inI _ 0 1000000000) ?_
  rw [decide_eq_true (p := 0 ≤ (n : Int) ∧ (n : Int) ≤ 1000000000) (by omega)]
  simp -implicitDefEqProofs only [↓ops_cons, ↓g_unOp, Nat.reduceLT, ev_tab, upd_eq, u_not, Bool.not_true, Option.map_some, ↓ops_nil, ↓w_cond, ↓w_seq, ↓w_region, ↓g_assign, ↓w_ret, ev_const, of_str, of_bool, ret_two, ne_eq, Nat.reduceEqDiff, not_false_eq_true, upd_ne, ↓w_skip, ↓g_buildSlice, Try.underlying46, List.map_nil, bs5_0, ↓w_block, alK_some, ints_one, List.length_nil, List.nil_append, true_and, onS_some, onB_false]
  refine w_loop (ι := Nat) (fun c s => ∃ (T : Nat → AV) (G : AHeap) (A : List Int), s = ⟨tab 26 T, G ++ [⟨ints .u8 A, true, true⟩]⟩ ∧ c ≤ 1000000000 ∧ A.length ≤ 1000000000 - c ∧ A ++ varN c = varN n ∧ T 0 = .sc (.int .i64 c) ∧ T 4 = .sl G.length 0 A.length 1) (fun c => c) ?_ (i := n) ?_
  · rintro c s ⟨T, G, A, rfl, a0, a1, a2, a3, a4⟩
    have htk : A.take A.length = A := List.take_length
    by_cases h : 127 < c
    · have k1 : (127 : Int) < c := by omega
      have e1 : ((c : Int)).tmod 128 = ((c % 128 : Nat) : Int) := by rw [Int.tmod_eq_emod_of_nonneg (by omega)]; omega
      have e2 : IntKind.i64.wrap (((c % 128 : Nat) : Int) + 128) = ((c % 128 + 128 : Nat) : Int) := by rw [w64 (by omega) (by omega)]; omega
      have e3 : IntKind.u8.wrap ((c % 128 + 128 : Nat) : Int) = ((c % 128 + 128 : Nat) : Int) := u8_id (by omega) (by omega)
      have e4 : IntKind.i64.wrap (((c : Int)).tdiv 128) = ((c / 128 : Nat) : Int) := by rw [Int.tdiv_eq_ediv_of_nonneg (by omega), w64 (by omega) (by omega)]; omega
      rw [varN_big h] at a2
      simp -implicitDefEqProofs only [↓w_seq, ↓w_region, ↓ops_cons, ↓g_move, ↓g_binOp, Nat.reduceLT, ev_tab, a3, upd_eq, ev_const, of_int, b_gtr, k1, decide_true, ↓ops_nil, ↓w_cond, ↓w_skip, ↓w_block, ne_eq, Nat.reduceEqDiff, not_false_eq_true, upd_ne, a4, reduceCtorEq, b_rem, Int.reduceEq, e1, if_false, ↓g_convert, Try.underlying3, Try.underlying5, ↓g_buildSlice, Try.underlying46, List.map_cons, List.map_nil, ↓g_append, apS46, ↓g_assign, b_quo, e4, onS_some, b_add, e2, c_int, e3, bs5_1, alK_some, ints_one, at_a, List.length_append, List.length_cons, List.length_nil, Nat.zero_add, src_sl, at_b, at_ints, Nat.le_refl, List.drop_zero, List.take_succ_cons, List.take_zero, if_true, ap_ints, Nat.mul_one, Nat.reduceLeDiff, and_self, true_and, List.take_length, onS_ite, ↓w_exit, Try.underlying9, ↓w_ret, of_bool, ret_two, c_text, isU5, at_def, onB_true]
      refine ⟨by omega, c / 128, by omega, _, _, A ++ [((c % 128 + 128 : Nat) : Int)], rfl, by omega, by simp; omega, by rw [List.append_assoc]; exact a2, ?_, ?_⟩
      · simp -implicitDefEqProofs only [upd_eq]
      · simp -implicitDefEqProofs only [ne_eq, reduceCtorEq, not_false_eq_true, upd_ne, Nat.reduceEqDiff, upd_eq, kill_len, List.length_append, List.length_cons, List.length_nil, Nat.zero_add]
        try simp only [kill_len, List.length_append, List.length_cons, List.length_nil]
        try rfl
    · have k1 : ¬ (127 : Int) < c := by omega
      have e3 : IntKind.u8.wrap (c : Int) = c := u8_id (by omega) (by omega)
      rw [varN_small h] at a2
      have hA : A.length + 1 = (varN n).length := by rw [← a2]; simp
      have h5 := varN_5 n hn
      have htk2 : (A ++ [(c : Int)]).take (A.length + 1) = A ++ [(c : Int)] := List.take_of_length_le (by simp)
      simp -implicitDefEqProofs only [↓w_seq, ↓w_region, ↓ops_cons, ↓g_move, ↓g_binOp, Nat.reduceLT, ev_tab, a3, upd_eq, ev_const, of_int, b_gtr, k1, decide_false, ↓ops_nil, ↓w_cond, ↓w_skip, ↓w_block, ne_eq, Nat.reduceEqDiff, not_false_eq_true, upd_ne, a4, reduceCtorEq, b_rem, Int.reduceEq, if_false, ↓g_convert, Try.underlying3, Try.underlying5, ↓g_buildSlice, Try.underlying46, List.map_cons, List.map_nil, ↓g_append, apS46, ↓g_assign, b_quo, onS_some, b_add, c_int, bs5_1, alK_some, ints_one, at_a, List.length_append, List.length_cons, List.length_nil, Nat.zero_add, src_sl, at_b, at_ints, Nat.le_refl, List.drop_zero, List.take_succ_cons, List.take_zero, if_true, ap_ints, Nat.mul_one, Nat.reduceLeDiff, and_self, true_and, List.take_length, onS_ite, ↓w_exit, Try.underlying9, ↓w_ret, of_bool, ret_two, e3, c_text, isU5, at_def, at_kill2, htk2, Option.bind_some, bytesA_ints, Option.map_some, onB_false]
      refine ⟨by omega, ?_⟩
      rw [a2]
      rfl
  · refine ⟨_, [], [], rfl, hn, by simp, rfl, ?_, ?_⟩ <;> simp -implicitDefEqProofs only [ne_eq, reduceCtorEq, not_false_eq_true, upd_ne, par0, upd_eq, List.length_nil] <;> rfl
end Go.Proofs.Ytcjjcpdfnndenaa.Sim
namespace Go.Proofs.Ytcjjcpdfnndenaa.Sim
open Go
set_option maxRecDepth 100000
set_option maxHeartbeats 4000000
set_option linter.unusedSimpArgs false
set_option linter.unusedVariables false
theorem g_guard_n {P : Program} {ops : Array Oper} {K : St → Prop} {n : Nat} {T : Nat → AV} {H : AHeap} {d : Tmp} {ty : TypeId} {pos : String} {af : Array Edge} {op : Op} {j : Nat} {want : Bool} (h : yieldedA ops (tab n T) j = none) : opG P ops ⟨some d, op, ty, pos, af, some (j, want)⟩ K ⟨tab n T, H⟩ = K ⟨tab n (upd T d und), H⟩ := by
  rw [g_guard]
  simp only [h]
  have : ((none : Option Bool) == some want) = false := rfl
  simp only [this, St.put, set_tab]
theorem bo_und : boolOf und = none := rfl
def upAt (l : List Int) (i : Nat) : Prop := (0 ≤ l.getD i 0 ∧ l.getD i 0 ≤ 9999) ∧ (0 < i → l.getD (i - 1) 0 < l.getD i 0)
def UpL (l : List Int) : Prop := ∀ i, i < l.length → upAt l i
theorem upI {H : AHeap} {x : AV} {l : List Int} (b : Bool) (hb : b = true ↔ UpL l) (hx : IsL H x .i64 l) (hl : l.length ≤ 1000000000000) : Sound Try.prog 46 [x] H (.sc (.bool b)) H := by
  refine Sound.run 29 [.tmp 2] Try.func46 rfl rfl rfl rfl (by simp) ?_
  have lx := fun e => hx.len e
  simp -implicitDefEqProofs only [↓w_seq, ↓w_region, ↓ops_cons, ↓g_assign, ↓ops_nil, ev_const, of_bool, ↓g_move, ↓g_len, Try.underlying22, Nat.reduceLT, ev_tab, ne_eq, reduceCtorEq, not_false_eq_true, upd_ne, par0, upd_eq, lx, ↓w_block, of_int, onS_some]
  refine w_loop (ι := Nat) (fun i s => ∃ T : Nat → AV, s = ⟨tab 29 T, H⟩ ∧ i ≤ l.length ∧ (∀ j, j < i → upAt l j) ∧ T 0 = x ∧ T 5 = x ∧ T 6 = .sc (.int .i64 l.length) ∧ T 7 = .sc (.int .i64 i)) (fun i => l.length - i) ?_ (i := 0) ?_
  · rintro i s ⟨T, rfl, a1, a0, a2, a3, a4, a5⟩
    by_cases h : i < l.length
    · have k1 : (i : Int) < l.length := by omega
      have k2 : (0 : Int) ≤ i := by omega
      obtain ⟨r, o, rfl, hr⟩ := hx.get (i := i) h
      have e1 : IntKind.i64.wrap ((i : Int) + 1) = i + 1 := w64 (by omega) (by omega)
      simp -implicitDefEqProofs only [↓w_seq, ↓w_region, ↓ops_cons, ↓g_binOp, Nat.reduceLT, ev_tab, a5, a4, b_lss, k1, decide_true, ↓ops_nil, ↓w_cond, upd_eq, ↓w_skip, ↓w_block, ↓g_move, ↓g_indexAddr, Try.underlying22, ne_eq, Nat.reduceEqDiff, not_false_eq_true, upd_ne, a3, adr_sl, k2, cells3, tyOk3, and_self, Int.toNat_natCast, Nat.mul_one, Nat.zero_add, if_true, ↓g_load, ↓g_assign, onS_some, rd_def, agg3, hr, rd_ints, h, ↓w_exit, ↓w_ret, ev_const, of_bool, ret_one, and_true, onB_true]
      refine call1 (by simp -implicitDefEqProofs only [List.map_cons, Nat.reduceLT, ev_tab, upd_eq, ev_const, of_int, List.map_nil] <;> rfl) (inI _ 0 9999) ?_
      have more : upAt l i → ∀ j, j < i + 1 → upAt l j := fun hu j hj => by
        rcases Nat.lt_or_ge j i with q | q
        · exact a0 j q
        · have : j = i := by omega
          subst this; exact hu
      by_cases hr1 : 0 ≤ l.getD i 0 ∧ l.getD i 0 ≤ 9999
      · have d1 : decide (0 ≤ l.getD i 0 ∧ l.getD i 0 ≤ 9999) = true := decide_eq_true hr1
        by_cases hi : 0 < i
        · have k3 : (0 : Int) < i := by omega
          have e2 : IntKind.i64.wrap ((i : Int) - 1) = ((i - 1 : Nat) : Int) := by rw [w64 (by omega) (by omega)]; omega
          have k4 : (0 : Int) ≤ ((i - 1 : Nat) : Int) := by omega
          have k5 : ((i - 1 : Nat) : Int) < l.length := by omega
          have k6 : i - 1 < l.length := by omega
          by_cases hu : l.getD (i - 1) 0 < l.getD i 0
          · have hn : ¬ l.getD i 0 ≤ l.getD (i - 1) 0 := by omega
            simp -implicitDefEqProofs only [↓ops_cons, ↓g_unOp, d1, Nat.reduceLT, ev_tab, upd_eq, u_not, Bool.not_true, Option.map_some, ↓g_move, onS_some, yielded_tab, dstAt_s, dstAt_0, ybv_some, boolOf_b, ↓g_guard_t, ne_eq, Nat.reduceEqDiff, not_false_eq_true, upd_ne, ↓g_binOp, ev_const, of_int, b_gtr, k3, decide_true, reduceCtorEq, a2, b_sub, e2, ↓g_indexAddr, Try.underlying22, ↓g_load, ↓g_pick, of_bool, pick_b, if_true, if_false, ↓ops_nil, ↓w_cond, ↓w_seq, ↓w_region, ↓g_assign, ↓w_ret, ret_one, and_true, ↓w_skip, a5, b_add, e1, adr_sl, k4, k5, cells3, tyOk3, and_self, Int.toNat_natCast, Nat.mul_one, Nat.zero_add, rd_def, agg3, hr, rd_ints, k6, b_geq, hn, decide_false, onB_false]
            refine ⟨i + 1, by omega, _, rfl, by omega, more ⟨hr1, fun _ => hu⟩, ?_, ?_, ?_, ?_⟩ <;> simp -implicitDefEqProofs only [ne_eq, reduceCtorEq, not_false_eq_true, upd_ne, a2, Nat.reduceEqDiff, a3, a4, upd_eq] <;> rfl
          · have hn : l.getD i 0 ≤ l.getD (i - 1) 0 := by omega
            have hbf : b = false := by
              cases b with
              | false => rfl
              | true => exact absurd ((hb.1 rfl i h).2 hi) hu
            simp -implicitDefEqProofs only [↓ops_cons, ↓g_unOp, d1, Nat.reduceLT, ev_tab, upd_eq, u_not, Bool.not_true, Option.map_some, ↓g_move, hbf, onS_some, yielded_tab, dstAt_s, dstAt_0, ybv_some, boolOf_b, ↓g_guard_t, ne_eq, Nat.reduceEqDiff, not_false_eq_true, upd_ne, ↓g_binOp, ev_const, of_int, b_gtr, k3, decide_true, reduceCtorEq, a2, b_sub, e2, ↓g_indexAddr, Try.underlying22, ↓g_load, ↓g_pick, of_bool, pick_b, if_true, if_false, ↓ops_nil, ↓w_cond, ↓w_seq, ↓w_region, ↓g_assign, ↓w_ret, ret_one, and_self, ↓w_skip, adr_sl, k4, k5, cells3, tyOk3, Int.toNat_natCast, Nat.mul_one, Nat.zero_add, rd_def, agg3, hr, rd_ints, k6, b_geq, hn, onB_true]
        · have k3 : ¬ (0 : Int) < i := by omega
          simp -implicitDefEqProofs only [↓ops_cons, ↓g_unOp, d1, Nat.reduceLT, ev_tab, upd_eq, u_not, Bool.not_true, Option.map_some, ↓g_move, onS_some, yielded_tab, dstAt_s, dstAt_0, ybv_some, boolOf_b, ↓g_guard_t, ne_eq, Nat.reduceEqDiff, not_false_eq_true, upd_ne, ↓g_binOp, ev_const, of_int, b_gtr, k3, decide_false, ↓g_guard_f, ↓g_pick, of_bool, pick_b, reduceCtorEq, if_false, ↓ops_nil, ↓w_cond, ↓w_seq, ↓w_region, ↓g_assign, ↓w_ret, ret_one, and_true, ↓w_skip, a5, b_add, e1, onB_false]
          refine ⟨i + 1, by omega, _, rfl, by omega, more ⟨hr1, fun q => absurd q hi⟩, ?_, ?_, ?_, ?_⟩ <;> simp -implicitDefEqProofs only [ne_eq, reduceCtorEq, not_false_eq_true, upd_ne, a2, Nat.reduceEqDiff, a3, a4, upd_eq] <;> rfl
      · have d1 : decide (0 ≤ l.getD i 0 ∧ l.getD i 0 ≤ 9999) = false := decide_eq_false hr1
        have hbf : b = false := by
          cases b with
          | false => rfl
          | true => exact absurd (hb.1 rfl i h).1 hr1
        simp -implicitDefEqProofs only [↓ops_cons, ↓g_unOp, d1, Nat.reduceLT, ev_tab, upd_eq, u_not, Bool.not_false, Option.map_some, ↓g_move, hbf, onS_some, yielded_tab, dstAt_s, dstAt_0, ybv_some, boolOf_b, ↓g_guard_f, ne_eq, Nat.reduceEqDiff, not_false_eq_true, upd_ne, bo_und, ↓g_guard_n, ↓g_pick, ev_const, of_bool, pick_b, if_true, ↓ops_nil, ↓w_cond, ↓w_seq, ↓w_region, ↓g_assign, ↓w_ret, ret_one, and_self, ↓w_skip, ↓g_binOp, of_int, onB_true]
    · have k1 : ¬ (i : Int) < l.length := by omega
      have hbt : b = true := hb.2 fun j hj => a0 j (by omega)
      simp -implicitDefEqProofs only [↓w_seq, ↓w_region, hbt, ↓ops_cons, ↓g_binOp, Nat.reduceLT, ev_tab, a5, a4, b_lss, k1, decide_false, ↓ops_nil, ↓w_cond, upd_eq, ↓w_skip, ↓w_block, ↓g_move, ↓g_indexAddr, Try.underlying22, ne_eq, Nat.reduceEqDiff, not_false_eq_true, upd_ne, a3, ↓g_load, ↓g_assign, ↓w_exit, ↓w_ret, ev_const, of_bool, ret_one, and_self, if_true, onS_some, onB_false]
  · refine ⟨_, rfl, by omega, fun j hj => by omega, ?_, ?_, ?_, ?_⟩ <;> simp -implicitDefEqProofs only [ne_eq, reduceCtorEq, not_false_eq_true, upd_ne, par0, Nat.reduceEqDiff, upd_eq, Int.cast_ofNat_Int] <;> rfl
theorem upS {H : AHeap} {x : AV} {l : List Int} (b : Bool) (hb : b = true ↔ (UpL l ∧ l.length ≤ 100)) (hx : IsL H x .i64 l) (hl : l.length ≤ 1000000000000) : Sound Try.prog 44 [x] H (.sc (.bool b)) H := by
  refine Sound.run 35 [.tmp 2] Try.func44 rfl rfl rfl rfl (by simp) ?_
  have lx := fun e => hx.len e
  simp -implicitDefEqProofs only [↓w_seq, ↓w_region, ↓ops_cons, ↓g_assign, ↓ops_nil, ev_const, of_bool, ↓w_block, of_int]
  refine w_loop (ι := Nat) (fun i s => ∃ T : Nat → AV, s = ⟨tab 35 T, H⟩ ∧ i ≤ l.length ∧ (∀ j, j < i → upAt l j) ∧ T 0 = x ∧ T 3 = .sc (.int .i64 i)) (fun i => l.length - i) ?_ (i := 0) ?_
  · rintro i s ⟨T, rfl, a1, a0, a2, a3⟩
    by_cases h : i < l.length
    · have k1 : (i : Int) < l.length := by omega
      have k2 : (0 : Int) ≤ i := by omega
      obtain ⟨r, o, rfl, hr⟩ := hx.get (i := i) h
      have e1 : IntKind.i64.wrap ((i : Int) + 1) = i + 1 := w64 (by omega) (by omega)
      simp -implicitDefEqProofs only [↓w_seq, ↓w_region, ↓ops_cons, ↓g_move, ↓g_len, Try.underlying22, Nat.reduceLT, ev_tab, a3, ne_eq, reduceCtorEq, not_false_eq_true, upd_ne, a2, upd_eq, len_sl, ↓g_binOp, Nat.reduceEqDiff, ↓ops_nil, ↓w_cond, ↓w_skip, ↓w_block, ↓w_exit, ev_const, of_int, ↓g_assign, ↓w_ret, ret_one, and_true, onS_some, b_leq, if_true, b_lss, k1, decide_true, onB_true]
      refine drawn [(3, 0), (14, 5), (18, 5)] follows (by kernel_rfl) (by kernel_rfl) ?_
      simp -implicitDefEqProofs only [↓dops_cons, ↓g_move, ↓g_indexAddr, Try.underlying22, Nat.reduceLT, ev_tab, ne_eq, reduceCtorEq, not_false_eq_true, upd_ne, a2, Nat.reduceEqDiff, a3, upd_eq, adr_sl, k2, k1, cells3, tyOk3, and_self, Int.toNat_natCast, Nat.mul_one, Nat.zero_add, if_true, ↓g_load, onS_some, rd_def, agg3, hr, rd_ints, h]
      refine call1 (by simp -implicitDefEqProofs only [List.map_cons, Nat.reduceLT, ev_tab, upd_eq, ev_const, of_int, List.map_nil] <;> rfl) (inS _ 0 9999) ?_
      have more : upAt l i → ∀ j, j < i + 1 → upAt l j := fun hu j hj => by
        rcases Nat.lt_or_ge j i with q | q
        · exact a0 j q
        · have : j = i := by omega
          subst this; exact hu
      by_cases hr1 : 0 ≤ l.getD i 0 ∧ l.getD i 0 ≤ 9999
      · have d1 : decide (0 ≤ l.getD i 0 ∧ l.getD i 0 ≤ 9999) = true := decide_eq_true hr1
        by_cases hi : 0 < i
        · have k3 : (0 : Int) < i := by omega
          have e2 : IntKind.i64.wrap ((i : Int) - 1) = ((i - 1 : Nat) : Int) := by rw [w64 (by omega) (by omega)]; omega
          have k4 : (0 : Int) ≤ ((i - 1 : Nat) : Int) := by omega
          have k5 : ((i - 1 : Nat) : Int) < l.length := by omega
          have k6 : i - 1 < l.length := by omega
          by_cases hu : l.getD (i - 1) 0 < l.getD i 0
          · have hn : ¬ l.getD i 0 ≤ l.getD (i - 1) 0 := by omega
            simp -implicitDefEqProofs only [↓dops_cons, ↓g_unOp, d1, Nat.reduceLT, ev_tab, upd_eq, u_not, Bool.not_true, Option.map_some, ↓g_move, onS_some, yielded_tab, dstAt_s, dstAt_0, ybv_some, boolOf_b, ↓g_guard_t, ne_eq, Nat.reduceEqDiff, not_false_eq_true, upd_ne, a3, ↓g_binOp, ev_const, of_int, b_gtr, k3, decide_true, reduceCtorEq, a2, b_sub, e2, ↓g_indexAddr, Try.underlying22, ↓g_load, adr_sl, k2, k1, cells3, tyOk3, and_self, Int.toNat_natCast, Nat.mul_one, Nat.zero_add, if_true, ↓g_pick, of_bool, pick_b, if_false, ↓dops_p, ↓w_cond, ↓w_seq, ↓w_region, ↓ops_cons, ↓g_assign, ↓ops_nil, ↓w_ret, ret_one, and_true, ↓w_skip, b_add, e1, rd_def, agg3, hr, rd_ints, h, k4, k5, k6, b_geq, hn, decide_false, onB_false]
            refine ⟨pairs_cons (same_H rfl) (pairs_cons (same_H rfl) (pairs_cons (same_H rfl) (pairs_nil))), ?_⟩
            try simp -implicitDefEqProofs only [↓w_seq, ↓w_skip, ↓w_ret, ↓w_exit, ↓w_block, ↓w_cond, ↓w_region, ↓ops_nil, ↓ops_cons, ↓dops_0, ↓dops_p, ↓dops_cons, ↓g_move, ↓g_assign, ↓g_binOp, ↓g_unOp, ↓g_pick, ↓g_len, ↓g_index, ↓g_indexAddr, ↓g_slice, ↓g_convert, ↓g_load, ↓g_store, ↓g_extract, ↓g_nilCheck, ↓g_fieldT, ↓g_fieldAddrT, of_agg, rd_aggc, rd_onec, wr_c, cells_int, cells_str, cells_bool, cells_nil, cells_sl, cells_ptr, cells_agg, one_int, one_str, one_bool, one_nil, one_sl, one_ptr, over_0, over_s, List.all_cons, List.all_nil, Bool.and_true, Bool.and_self, List.getElem?_nil, List.drop_succ_cons, List.drop_nil, ↓g_guard_t, ↓g_guard_f, ↓g_alloc, ↓g_box, ↓g_buildSlice, ↓g_makeSlice, ↓g_buildV, rdA, wrA, ints_one, List.length_replicate, bools_one, strs_one, rd_bools, rd_strs, wr_bools, wr_strs, at_bools, at_strs, ap_bools, ap_boolsN, ap_strs, ap_strsN, ↓g_append, src_sl, src_nil, src_str, ap_ints, ap_intsN, kill_len, kill_0, kill_s, bnd_none, bnd_int, cut_str, cutS_some, cut_sl, cutL_some, bits_i64, bits_u32, bits_u8, List.getD_cons_zero, List.getD_cons_succ, at_end, at_a, at_b, yielded_tab, dstAt_0, dstAt_s, ybv_some, boolOf_b, ext_0, ext_1, ext_2, ext_3, alK_some, ev_tab, ev_const, upd_eq, upd_ne, par0, par1, par2, par3, par4, par5, of_int, of_str, of_bool, len_str, len_arr, len_sl, idx_str, adr_sl, adr_arr, c_int, c_str, c_bytes, c_text, pick_b, onS_some, onS_ite, onS_not, b_add, b_sub, b_mul, b_and, b_or, b_xor, b_eql, b_neq, b_lss, b_leq, b_gtr, b_geq, b_shl, b_shr, b_quo, b_rem, t_add, t_eql, t_neq, v_eql, v_neq, b_andNot, u_not, onB_true, onB_false, onB_dec, onB_not, ret_cell, ret_ct, retP_0, retP_1, retP_2, retP_3, res_tmp, res_cell, ret_one, ret_two, ret_three, ret_none, List.set_set, if_true, if_false, ite_true, ite_false, List.map_cons, List.map_nil, Option.map_some, Option.map_none, List.toList_toArray, rd_def, rd_ints, wr_def, wr_ints, at_def, at_ints, bytes_ints, bytesA_ints, ints_set, nums_len, List.length_nil, List.length_cons, List.length_set, List.length_append, List.nil_append, List.cons_append, List.getElem?_cons_zero, List.getElem?_cons_succ, List.set_cons_zero, List.set_cons_succ, List.drop_zero, List.take_succ_cons, List.take_zero, List.take_length, Option.bind_some, true_and, and_true, Nat.zero_add, Nat.mul_one, Int.toNat_zero, Int.reduceToNat, Int.reduceAdd, Int.reduceSub, Int.reduceMul, Int.reduceNeg, Nat.reduceAdd, Nat.reduceSub, Nat.reduceMul, Nat.reducePow, Nat.min_eq_left, Int.reducePow, Nat.le_refl, Int.cast_ofNat_Int, Nat.reduceLT, Nat.reduceLeDiff, Nat.reduceEqDiff, Int.reduceLE, Int.reduceLT, Int.reduceEq, ne_eq, not_false_eq_true, not_true_eq_false, reduceCtorEq, decide_true, decide_false, and_self, and_false, false_and, Bool.not_true, Bool.not_false, Try.underlying0, Try.underlying1, Try.underlying2, Try.underlying3, Try.underlying4, Try.underlying5, Try.underlying6, Try.underlying7, Try.underlying8, Try.underlying9, Try.underlying10, Try.underlying11, Try.underlying12, Try.underlying13, Try.underlying14, Try.underlying15, Try.underlying16, Try.underlying17, Try.underlying18, Try.underlying19, Try.underlying20, Try.underlying21, Try.underlying22, Try.underlying23, Try.underlying24, Try.underlying25, Try.underlying26, Try.underlying27, Try.underlying28, Try.underlying29, Try.underlying30, Try.underlying31, Try.underlying32, Try.underlying33, Try.underlying34, Try.underlying35, Try.underlying36, Try.underlying37, Try.underlying38, Try.underlying39, Try.underlying40, Try.underlying41, Try.underlying42, Try.underlying43, Try.underlying44, Try.underlying45, Try.underlying46, Try.underlying47, Try.underlying48, Try.underlying49, Try.underlying50, Try.underlying51, Try.underlying52, Try.underlying53, Try.underlying54, Try.underlying55, Try.underlying56, Try.underlying57, Try.underlying58, Try.underlying59, Try.underlying60, Try.underlying61, Try.underlying62, Try.underlying63, Try.underlying64, Try.underlying65, Try.underlying66, Try.underlying67, Try.underlying68, Try.underlying69, Try.underlying70, Try.underlying71, Try.underlying72, Try.underlying73, Try.underlying74, Try.underlying75, Try.underlying76, Try.underlying77, Try.underlying78, Try.underlying79, Try.underlying80, Try.underlying81, Try.underlying82, Try.underlying83, Try.underlying84, Try.underlying85, Try.underlying86, Try.underlying87, Try.underlying88, Try.underlying89, Try.underlying90, Try.underlying91, Try.underlying92, Try.underlying93, Try.underlying94, Try.underlying95, Try.underlying96, Try.underlying97, Try.underlying98, Try.underlying99, Try.underlying100, Try.underlying101, Try.underlying102, Try.underlying103, Try.underlying104, Try.underlying105, Try.underlying106, Try.underlying107, Try.underlying108, Try.underlying109, Try.underlying110, Try.underlying111, Try.underlying112, Try.underlying113, Try.underlying114, tyOk0, agg0, cells0, tyOk1, agg1, cells1, tyOk2, agg2, cells2, zero2, info2, mk2, bs2_0, bs2_1, bs2_2, bs2_3, bs2_4, bs2_5, bs2_6, bs2_7, bs2_8, bs2_10, bs2_11, bs2_12, bs2_13, tyOk3, agg3, cells3, zero3, apS22, apN22, info3, mk3, bs3_0, bs3_1, bs3_2, bs3_3, bs3_4, bs3_5, bs3_6, bs3_7, bs3_8, bs3_10, bs3_11, bs3_12, bs3_13, tyOk4, agg4, cells4, zero4, info4, mk4, bs4_0, bs4_1, bs4_2, tyOk5, agg5, cells5, isU5, zero5, apS46, apN46, apStr46, info5, mk5, bs5_0, bs5_1, bs5_2, bs5_3, bs5_4, bs5_5, bs5_6, bs5_7, bs5_8, bs5_10, bs5_11, bs5_12, bs5_13, tyOk6, agg6, cells6, isU6, zero6, info6, mk6, bs6_0, bs6_1, bs6_2, bs6_3, bs6_4, bs6_5, bs6_6, bs6_7, bs6_8, bs6_10, bs6_11, bs6_12, bs6_13, tyOk7, agg7, cells7, zero7, fadr7_0, fld7_0, fadr7_1, fld7_1, fadr7_2, fld7_2, fadr7_3, fld7_3, bz7, bds7, tyOk8, agg8, cells8, zero8, fadr8_0, fld8_0, fadr8_1, fld8_1, fadr8_2, fld8_2, fadr8_3, fld8_3, bz8, bds8, tyOk9, agg9, cells9, zero9, info9, bs9_0, bs9_1, bs9_2, bs9_3, bs9_4, bs9_5, bs9_6, bs9_8, bs9_9, bs9_10, tyOk10, agg10, cells10, zero10, info10, bs10_0, bs10_1, bs10_2, bs10_3, bs10_4, bs10_5, bs10_6, bs10_8, bs10_9, bs10_10, tyOk11, agg11, cells11, zero11, info11, bs11_0, bs11_1, bs11_2, bs11_3, bs11_4, bs11_5, bs11_6, bs11_8, bs11_9, bs11_10, tyOk12, agg12, cells12, zero12, info12, mk12, bs12_0, bs12_1, bs12_2, bs12_3, bs12_4, bs12_5, bs12_6, bs12_7, bs12_8, bs12_10, bs12_11, bs12_12, bs12_13, tyOk13, agg13, cells13, zero13, fadr13_0, fld13_0, fadr13_1, fld13_1, bz13, bds13, tyOk14, agg14, cells14, zero14, fadr14_0, fld14_0, fadr14_1, fld14_1, bz14, bds14, tyOk15, agg15, cells15, zero15, tyOk16, agg16, cells16, zero16, tyOk17, agg17, cells17, zero17, tyOk18, agg18, cells18, zero18, fadr18_0, fld18_0, bz18, bds18, tyOk19, agg19, cells19, zero19, fadr19_0, fld19_0, bz19, bds19, tyOk20, agg20, cells20, tyOk21, agg21, cells21, zero21, info21, mk21, bs21_0, bs21_1, bs21_2, bs21_3, bs21_4, bs21_5, bs21_6, bs21_7, bs21_8, bs21_10, bs21_11, bs21_12, bs21_13, tyOk22, agg22, cells22, zero22, tyOk23, agg23, cells23, tyOk24, agg24, cells24, tyOk25, agg25, cells25, tyOk26, agg26, cells26, tyOk27, agg27, cells27, tyOk28, agg28, cells28, zero28, fadr28_0, fld28_0, fadr28_1, fld28_1, fadr28_2, fld28_2, bz28, bds28, tyOk29, agg29, cells29, zero29, fadr29_0, fld29_0, fadr29_1, fld29_1, fadr29_2, fld29_2, bz29, bds29, tyOk30, agg30, cells30, tyOk31, agg31, cells31, tyOk32, agg32, cells32, zero32, fadr32_0, fld32_0, fadr32_1, fld32_1, fadr32_2, fld32_2, bz32, bds32, tyOk33, agg33, cells33, tyOk34, agg34, cells34, tyOk35, agg35, cells35, tyOk36, agg36, cells36, tyOk37, agg37, cells37, tyOk38, agg38, cells38, tyOk39, agg39, cells39, tyOk40, agg40, cells40, tyOk41, agg41, cells41, tyOk42, agg42, cells42, tyOk43, agg43, cells43, tyOk44, agg44, cells44, tyOk45, agg45, cells45, tyOk46, agg46, cells46, zero46, tyOk47, agg47, cells47, tyOk48, agg48, cells48, tyOk49, agg49, cells49, tyOk50, agg50, cells50, tyOk51, agg51, cells51, tyOk52, agg52, cells52, tyOk53, agg53, cells53, tyOk54, agg54, cells54, tyOk55, agg55, cells55, tyOk56, agg56, cells56, tyOk57, agg57, cells57, tyOk58, agg58, cells58, tyOk59, agg59, cells59, tyOk60, agg60, cells60, tyOk61, agg61, cells61, zero61, tyOk62, agg62, cells62, tyOk63, agg63, cells63, tyOk64, agg64, cells64, tyOk65, agg65, cells65, tyOk66, agg66, cells66, tyOk67, agg67, cells67, tyOk68, agg68, cells68, tyOk69, agg69, cells69, tyOk70, agg70, cells70, zero70, fadr70_0, fld70_0, fadr70_1, fld70_1, fadr70_2, fld70_2, bz70, bds70, tyOk71, agg71, cells71, zero71, fadr71_0, fld71_0, fadr71_1, fld71_1, fadr71_2, fld71_2, bz71, bds71, tyOk72, agg72, cells72, zero72, info72, mk72, bs72_0, bs72_1, bs72_2, bs72_3, bs72_4, bs72_5, bs72_6, bs72_7, bs72_8, bs72_10, bs72_11, bs72_12, bs72_13, tyOk73, agg73, cells73, tyOk74, agg74, cells74, tyOk75, agg75, cells75, tyOk76, agg76, cells76, tyOk77, agg77, cells77, zero77, info77, mk77, bs77_0, bs77_1, bs77_2, bs77_3, bs77_4, bs77_5, bs77_6, bs77_7, bs77_8, bs77_10, bs77_11, bs77_12, bs77_13, tyOk78, agg78, cells78, tyOk79, agg79, cells79, tyOk80, agg80, cells80, tyOk81, agg81, cells81, tyOk82, agg82, cells82, tyOk83, agg83, cells83, tyOk84, agg84, cells84, tyOk85, agg85, cells85, tyOk86, agg86, cells86, zero86, info86, mk86, bs86_0, bs86_1, bs86_2, bs86_3, bs86_4, bs86_5, bs86_6, bs86_7, bs86_8, bs86_10, bs86_11, bs86_12, bs86_13, tyOk87, agg87, cells87, tyOk88, agg88, cells88, zero88, info88, mk88, bs88_0, bs88_1, bs88_2, bs88_3, bs88_4, bs88_5, bs88_6, bs88_7, bs88_8, bs88_10, bs88_11, bs88_12, bs88_13, tyOk89, agg89, cells89, zero89, info89, mk89, bs89_0, bs89_1, bs89_2, bs89_3, bs89_4, bs89_5, bs89_6, bs89_7, bs89_8, bs89_10, bs89_11, bs89_12, bs89_13, tyOk90, agg90, cells90, tyOk91, agg91, cells91, tyOk92, agg92, cells92, tyOk93, agg93, cells93, zero93, tyOk94, agg94, cells94, tyOk95, agg95, cells95, tyOk96, agg96, cells96, zero96, tyOk97, agg97, cells97, tyOk98, agg98, cells98, tyOk99, agg99, cells99, tyOk100, agg100, cells100, zero100, fadr100_0, fld100_0, fadr100_1, fld100_1, fadr100_2, fld100_2, fadr100_3, fld100_3, bz100, bds100, tyOk101, agg101, cells101, zero101, fadr101_0, fld101_0, fadr101_1, fld101_1, fadr101_2, fld101_2, fadr101_3, fld101_3, bz101, bds101, tyOk102, agg102, cells102, zero102, tyOk103, agg103, cells103, zero103, tyOk104, agg104, cells104, zero104, tyOk105, agg105, cells105, tyOk106, agg106, cells106, isU106, zero106, info106, mk106, bs106_0, bs106_1, bs106_2, bs106_3, bs106_4, bs106_5, bs106_6, bs106_7, bs106_8, bs106_10, bs106_11, bs106_12, bs106_13, tyOk107, agg107, cells107, isU107, zero107, info107, mk107, bs107_0, bs107_1, bs107_2, bs107_3, bs107_4, bs107_5, bs107_6, bs107_7, bs107_8, bs107_10, bs107_11, bs107_12, bs107_13, tyOk108, agg108, cells108, tyOk109, agg109, cells109, zero109, tyOk110, agg110, cells110, zero110, info110, mk110, bs110_0, bs110_1, bs110_2, bs110_3, bs110_4, bs110_5, bs110_6, bs110_7, bs110_8, bs110_10, bs110_11, bs110_12, bs110_13, tyOk111, agg111, cells111, zero111, info111, mk111, bs111_0, bs111_1, bs111_2, bs111_3, bs111_4, bs111_5, bs111_6, bs111_7, bs111_8, bs111_10, bs111_11, bs111_12, bs111_13, tyOk112, agg112, cells112, fadr112_0, fld112_0, fadr112_1, fld112_1, fadr112_2, fld112_2, fadr112_3, fld112_3, fadr112_4, fld112_4, fadr112_5, fld112_5, fadr112_6, fld112_6, fadr112_7, fld112_7, fadr112_8, fld112_8, fadr112_9, fld112_9, fadr112_10, fld112_10, tyOk113, agg113, cells113, fadr113_0, fld113_0, fadr113_1, fld113_1, fadr113_2, fld113_2, fadr113_3, fld113_3, fadr113_4, fld113_4, fadr113_5, fld113_5, fadr113_6, fld113_6, fadr113_7, fld113_7, fadr113_8, fld113_8, fadr113_9, fld113_9, fadr113_10, fld113_10, tyOk114, agg114, cells114, zero114, a2, a3, e1]
            refine ⟨i + 1, by omega, _, rfl, by omega, more ⟨hr1, fun _ => hu⟩, ?_, ?_⟩ <;> simp -implicitDefEqProofs only [ne_eq, reduceCtorEq, not_false_eq_true, upd_ne, a2, upd_eq] <;> rfl
          · have hn : l.getD i 0 ≤ l.getD (i - 1) 0 := by omega
            have hbf : b = false := by
              cases b with
              | false => rfl
              | true => exact absurd (((hb.1 rfl).1 i h).2 hi) hu
            simp -implicitDefEqProofs only [↓dops_cons, ↓g_unOp, d1, Nat.reduceLT, ev_tab, upd_eq, u_not, Bool.not_true, Option.map_some, ↓g_move, hbf, onS_some, yielded_tab, dstAt_s, dstAt_0, ybv_some, boolOf_b, ↓g_guard_t, ne_eq, Nat.reduceEqDiff, not_false_eq_true, upd_ne, a3, ↓g_binOp, ev_const, of_int, b_gtr, k3, decide_true, reduceCtorEq, a2, b_sub, e2, ↓g_indexAddr, Try.underlying22, ↓g_load, adr_sl, k2, k1, cells3, tyOk3, and_self, Int.toNat_natCast, Nat.mul_one, Nat.zero_add, if_true, ↓g_pick, of_bool, pick_b, if_false, ↓dops_p, ↓w_cond, ↓w_seq, ↓w_region, ↓ops_cons, ↓g_assign, ↓ops_nil, ↓w_ret, ret_one, ↓w_skip, b_add, rd_def, agg3, hr, rd_ints, h, k4, k5, k6, b_geq, hn, onB_true, and_true]
            exact pairs_cons (same_H rfl) (pairs_cons (same_H rfl) (pairs_cons (same_H rfl) pairs_nil))
        · have k3 : ¬ (0 : Int) < i := by omega
          simp -implicitDefEqProofs only [↓dops_cons, ↓g_unOp, d1, Nat.reduceLT, ev_tab, upd_eq, u_not, Bool.not_true, Option.map_some, ↓g_move, onS_some, yielded_tab, dstAt_s, dstAt_0, ybv_some, boolOf_b, ↓g_guard_t, ne_eq, Nat.reduceEqDiff, not_false_eq_true, upd_ne, a3, ↓g_binOp, ev_const, of_int, b_gtr, k3, decide_false, ↓g_guard_f, ↓g_pick, of_bool, pick_b, reduceCtorEq, if_false, ↓dops_p, ↓w_cond, ↓w_seq, ↓w_region, ↓ops_cons, ↓g_assign, ↓ops_nil, ↓w_ret, ret_one, and_true, ↓w_skip, b_add, e1, onB_false]
          refine ⟨pairs_cons (same_H rfl) (pairs_cons (same_H rfl) (pairs_cons (same_H rfl) (pairs_nil))), ?_⟩
          try simp -implicitDefEqProofs only [↓w_seq, ↓w_skip, ↓w_ret, ↓w_exit, ↓w_block, ↓w_cond, ↓w_region, ↓ops_nil, ↓ops_cons, ↓dops_0, ↓dops_p, ↓dops_cons, ↓g_move, ↓g_assign, ↓g_binOp, ↓g_unOp, ↓g_pick, ↓g_len, ↓g_index, ↓g_indexAddr, ↓g_slice, ↓g_convert, ↓g_load, ↓g_store, ↓g_extract, ↓g_nilCheck, ↓g_fieldT, ↓g_fieldAddrT, of_agg, rd_aggc, rd_onec, wr_c, cells_int, cells_str, cells_bool, cells_nil, cells_sl, cells_ptr, cells_agg, one_int, one_str, one_bool, one_nil, one_sl, one_ptr, over_0, over_s, List.all_cons, List.all_nil, Bool.and_true, Bool.and_self, List.getElem?_nil, List.drop_succ_cons, List.drop_nil, ↓g_guard_t, ↓g_guard_f, ↓g_alloc, ↓g_box, ↓g_buildSlice, ↓g_makeSlice, ↓g_buildV, rdA, wrA, ints_one, List.length_replicate, bools_one, strs_one, rd_bools, rd_strs, wr_bools, wr_strs, at_bools, at_strs, ap_bools, ap_boolsN, ap_strs, ap_strsN, ↓g_append, src_sl, src_nil, src_str, ap_ints, ap_intsN, kill_len, kill_0, kill_s, bnd_none, bnd_int, cut_str, cutS_some, cut_sl, cutL_some, bits_i64, bits_u32, bits_u8, List.getD_cons_zero, List.getD_cons_succ, at_end, at_a, at_b, yielded_tab, dstAt_0, dstAt_s, ybv_some, boolOf_b, ext_0, ext_1, ext_2, ext_3, alK_some, ev_tab, ev_const, upd_eq, upd_ne, par0, par1, par2, par3, par4, par5, of_int, of_str, of_bool, len_str, len_arr, len_sl, idx_str, adr_sl, adr_arr, c_int, c_str, c_bytes, c_text, pick_b, onS_some, onS_ite, onS_not, b_add, b_sub, b_mul, b_and, b_or, b_xor, b_eql, b_neq, b_lss, b_leq, b_gtr, b_geq, b_shl, b_shr, b_quo, b_rem, t_add, t_eql, t_neq, v_eql, v_neq, b_andNot, u_not, onB_true, onB_false, onB_dec, onB_not, ret_cell, ret_ct, retP_0, retP_1, retP_2, retP_3, res_tmp, res_cell, ret_one, ret_two, ret_three, ret_none, List.set_set, if_true, if_false, ite_true, ite_false, List.map_cons, List.map_nil, Option.map_some, Option.map_none, List.toList_toArray, rd_def, rd_ints, wr_def, wr_ints, at_def, at_ints, bytes_ints, bytesA_ints, ints_set, nums_len, List.length_nil, List.length_cons, List.length_set, List.length_append, List.nil_append, List.cons_append, List.getElem?_cons_zero, List.getElem?_cons_succ, List.set_cons_zero, List.set_cons_succ, List.drop_zero, List.take_succ_cons, List.take_zero, List.take_length, Option.bind_some, true_and, and_true, Nat.zero_add, Nat.mul_one, Int.toNat_zero, Int.reduceToNat, Int.reduceAdd, Int.reduceSub, Int.reduceMul, Int.reduceNeg, Nat.reduceAdd, Nat.reduceSub, Nat.reduceMul, Nat.reducePow, Nat.min_eq_left, Int.reducePow, Nat.le_refl, Int.cast_ofNat_Int, Nat.reduceLT, Nat.reduceLeDiff, Nat.reduceEqDiff, Int.reduceLE, Int.reduceLT, Int.reduceEq, ne_eq, not_false_eq_true, not_true_eq_false, reduceCtorEq, decide_true, decide_false, and_self, and_false, false_and, Bool.not_true, Bool.not_false, Try.underlying0, Try.underlying1, Try.underlying2, Try.underlying3, Try.underlying4, Try.underlying5, Try.underlying6, Try.underlying7, Try.underlying8, Try.underlying9, Try.underlying10, Try.underlying11, Try.underlying12, Try.underlying13, Try.underlying14, Try.underlying15, Try.underlying16, Try.underlying17, Try.underlying18, Try.underlying19, Try.underlying20, Try.underlying21, Try.underlying22, Try.underlying23, Try.underlying24, Try.underlying25, Try.underlying26, Try.underlying27, Try.underlying28, Try.underlying29, Try.underlying30, Try.underlying31, Try.underlying32, Try.underlying33, Try.underlying34, Try.underlying35, Try.underlying36, Try.underlying37, Try.underlying38, Try.underlying39, Try.underlying40, Try.underlying41, Try.underlying42, Try.underlying43, Try.underlying44, Try.underlying45, Try.underlying46, Try.underlying47, Try.underlying48, Try.underlying49, Try.underlying50, Try.underlying51, Try.underlying52, Try.underlying53, Try.underlying54, Try.underlying55, Try.underlying56, Try.underlying57, Try.underlying58, Try.underlying59, Try.underlying60, Try.underlying61, Try.underlying62, Try.underlying63, Try.underlying64, Try.underlying65, Try.underlying66, Try.underlying67, Try.underlying68, Try.underlying69, Try.underlying70, Try.underlying71, Try.underlying72, Try.underlying73, Try.underlying74, Try.underlying75, Try.underlying76, Try.underlying77, Try.underlying78, Try.underlying79, Try.underlying80, Try.underlying81, Try.underlying82, Try.underlying83, Try.underlying84, Try.underlying85, Try.underlying86, Try.underlying87, Try.underlying88, Try.underlying89, Try.underlying90, Try.underlying91, Try.underlying92, Try.underlying93, Try.underlying94, Try.underlying95, Try.underlying96, Try.underlying97, Try.underlying98, Try.underlying99, Try.underlying100, Try.underlying101, Try.underlying102, Try.underlying103, Try.underlying104, Try.underlying105, Try.underlying106, Try.underlying107, Try.underlying108, Try.underlying109, Try.underlying110, Try.underlying111, Try.underlying112, Try.underlying113, Try.underlying114, tyOk0, agg0, cells0, tyOk1, agg1, cells1, tyOk2, agg2, cells2, zero2, info2, mk2, bs2_0, bs2_1, bs2_2, bs2_3, bs2_4, bs2_5, bs2_6, bs2_7, bs2_8, bs2_10, bs2_11, bs2_12, bs2_13, tyOk3, agg3, cells3, zero3, apS22, apN22, info3, mk3, bs3_0, bs3_1, bs3_2, bs3_3, bs3_4, bs3_5, bs3_6, bs3_7, bs3_8, bs3_10, bs3_11, bs3_12, bs3_13, tyOk4, agg4, cells4, zero4, info4, mk4, bs4_0, bs4_1, bs4_2, tyOk5, agg5, cells5, isU5, zero5, apS46, apN46, apStr46, info5, mk5, bs5_0, bs5_1, bs5_2, bs5_3, bs5_4, bs5_5, bs5_6, bs5_7, bs5_8, bs5_10, bs5_11, bs5_12, bs5_13, tyOk6, agg6, cells6, isU6, zero6, info6, mk6, bs6_0, bs6_1, bs6_2, bs6_3, bs6_4, bs6_5, bs6_6, bs6_7, bs6_8, bs6_10, bs6_11, bs6_12, bs6_13, tyOk7, agg7, cells7, zero7, fadr7_0, fld7_0, fadr7_1, fld7_1, fadr7_2, fld7_2, fadr7_3, fld7_3, bz7, bds7, tyOk8, agg8, cells8, zero8, fadr8_0, fld8_0, fadr8_1, fld8_1, fadr8_2, fld8_2, fadr8_3, fld8_3, bz8, bds8, tyOk9, agg9, cells9, zero9, info9, bs9_0, bs9_1, bs9_2, bs9_3, bs9_4, bs9_5, bs9_6, bs9_8, bs9_9, bs9_10, tyOk10, agg10, cells10, zero10, info10, bs10_0, bs10_1, bs10_2, bs10_3, bs10_4, bs10_5, bs10_6, bs10_8, bs10_9, bs10_10, tyOk11, agg11, cells11, zero11, info11, bs11_0, bs11_1, bs11_2, bs11_3, bs11_4, bs11_5, bs11_6, bs11_8, bs11_9, bs11_10, tyOk12, agg12, cells12, zero12, info12, mk12, bs12_0, bs12_1, bs12_2, bs12_3, bs12_4, bs12_5, bs12_6, bs12_7, bs12_8, bs12_10, bs12_11, bs12_12, bs12_13, tyOk13, agg13, cells13, zero13, fadr13_0, fld13_0, fadr13_1, fld13_1, bz13, bds13, tyOk14, agg14, cells14, zero14, fadr14_0, fld14_0, fadr14_1, fld14_1, bz14, bds14, tyOk15, agg15, cells15, zero15, tyOk16, agg16, cells16, zero16, tyOk17, agg17, cells17, zero17, tyOk18, agg18, cells18, zero18, fadr18_0, fld18_0, bz18, bds18, tyOk19, agg19, cells19, zero19, fadr19_0, fld19_0, bz19, bds19, tyOk20, agg20, cells20, tyOk21, agg21, cells21, zero21, info21, mk21, bs21_0, bs21_1, bs21_2, bs21_3, bs21_4, bs21_5, bs21_6, bs21_7, bs21_8, bs21_10, bs21_11, bs21_12, bs21_13, tyOk22, agg22, cells22, zero22, tyOk23, agg23, cells23, tyOk24, agg24, cells24, tyOk25, agg25, cells25, tyOk26, agg26, cells26, tyOk27, agg27, cells27, tyOk28, agg28, cells28, zero28, fadr28_0, fld28_0, fadr28_1, fld28_1, fadr28_2, fld28_2, bz28, bds28, tyOk29, agg29, cells29, zero29, fadr29_0, fld29_0, fadr29_1, fld29_1, fadr29_2, fld29_2, bz29, bds29, tyOk30, agg30, cells30, tyOk31, agg31, cells31, tyOk32, agg32, cells32, zero32, fadr32_0, fld32_0, fadr32_1, fld32_1, fadr32_2, fld32_2, bz32, bds32, tyOk33, agg33, cells33, tyOk34, agg34, cells34, tyOk35, agg35, cells35, tyOk36, agg36, cells36, tyOk37, agg37, cells37, tyOk38, agg38, cells38, tyOk39, agg39, cells39, tyOk40, agg40, cells40, tyOk41, agg41, cells41, tyOk42, agg42, cells42, tyOk43, agg43, cells43, tyOk44, agg44, cells44, tyOk45, agg45, cells45, tyOk46, agg46, cells46, zero46, tyOk47, agg47, cells47, tyOk48, agg48, cells48, tyOk49, agg49, cells49, tyOk50, agg50, cells50, tyOk51, agg51, cells51, tyOk52, agg52, cells52, tyOk53, agg53, cells53, tyOk54, agg54, cells54, tyOk55, agg55, cells55, tyOk56, agg56, cells56, tyOk57, agg57, cells57, tyOk58, agg58, cells58, tyOk59, agg59, cells59, tyOk60, agg60, cells60, tyOk61, agg61, cells61, zero61, tyOk62, agg62, cells62, tyOk63, agg63, cells63, tyOk64, agg64, cells64, tyOk65, agg65, cells65, tyOk66, agg66, cells66, tyOk67, agg67, cells67, tyOk68, agg68, cells68, tyOk69, agg69, cells69, tyOk70, agg70, cells70, zero70, fadr70_0, fld70_0, fadr70_1, fld70_1, fadr70_2, fld70_2, bz70, bds70, tyOk71, agg71, cells71, zero71, fadr71_0, fld71_0, fadr71_1, fld71_1, fadr71_2, fld71_2, bz71, bds71, tyOk72, agg72, cells72, zero72, info72, mk72, bs72_0, bs72_1, bs72_2, bs72_3, bs72_4, bs72_5, bs72_6, bs72_7, bs72_8, bs72_10, bs72_11, bs72_12, bs72_13, tyOk73, agg73, cells73, tyOk74, agg74, cells74, tyOk75, agg75, cells75, tyOk76, agg76, cells76, tyOk77, agg77, cells77, zero77, info77, mk77, bs77_0, bs77_1, bs77_2, bs77_3, bs77_4, bs77_5, bs77_6, bs77_7, bs77_8, bs77_10, bs77_11, bs77_12, bs77_13, tyOk78, agg78, cells78, tyOk79, agg79, cells79, tyOk80, agg80, cells80, tyOk81, agg81, cells81, tyOk82, agg82, cells82, tyOk83, agg83, cells83, tyOk84, agg84, cells84, tyOk85, agg85, cells85, tyOk86, agg86, cells86, zero86, info86, mk86, bs86_0, bs86_1, bs86_2, bs86_3, bs86_4, bs86_5, bs86_6, bs86_7, bs86_8, bs86_10, bs86_11, bs86_12, bs86_13, tyOk87, agg87, cells87, tyOk88, agg88, cells88, zero88, info88, mk88, bs88_0, bs88_1, bs88_2, bs88_3, bs88_4, bs88_5, bs88_6, bs88_7, bs88_8, bs88_10, bs88_11, bs88_12, bs88_13, tyOk89, agg89, cells89, zero89, info89, mk89, bs89_0, bs89_1, bs89_2, bs89_3, bs89_4, bs89_5, bs89_6, bs89_7, bs89_8, bs89_10, bs89_11, bs89_12, bs89_13, tyOk90, agg90, cells90, tyOk91, agg91, cells91, tyOk92, agg92, cells92, tyOk93, agg93, cells93, zero93, tyOk94, agg94, cells94, tyOk95, agg95, cells95, tyOk96, agg96, cells96, zero96, tyOk97, agg97, cells97, tyOk98, agg98, cells98, tyOk99, agg99, cells99, tyOk100, agg100, cells100, zero100, fadr100_0, fld100_0, fadr100_1, fld100_1, fadr100_2, fld100_2, fadr100_3, fld100_3, bz100, bds100, tyOk101, agg101, cells101, zero101, fadr101_0, fld101_0, fadr101_1, fld101_1, fadr101_2, fld101_2, fadr101_3, fld101_3, bz101, bds101, tyOk102, agg102, cells102, zero102, tyOk103, agg103, cells103, zero103, tyOk104, agg104, cells104, zero104, tyOk105, agg105, cells105, tyOk106, agg106, cells106, isU106, zero106, info106, mk106, bs106_0, bs106_1, bs106_2, bs106_3, bs106_4, bs106_5, bs106_6, bs106_7, bs106_8, bs106_10, bs106_11, bs106_12, bs106_13, tyOk107, agg107, cells107, isU107, zero107, info107, mk107, bs107_0, bs107_1, bs107_2, bs107_3, bs107_4, bs107_5, bs107_6, bs107_7, bs107_8, bs107_10, bs107_11, bs107_12, bs107_13, tyOk108, agg108, cells108, tyOk109, agg109, cells109, zero109, tyOk110, agg110, cells110, zero110, info110, mk110, bs110_0, bs110_1, bs110_2, bs110_3, bs110_4, bs110_5, bs110_6, bs110_7, bs110_8, bs110_10, bs110_11, bs110_12, bs110_13, tyOk111, agg111, cells111, zero111, info111, mk111, bs111_0, bs111_1, bs111_2, bs111_3, bs111_4, bs111_5, bs111_6, bs111_7, bs111_8, bs111_10, bs111_11, bs111_12, bs111_13, tyOk112, agg112, cells112, fadr112_0, fld112_0, fadr112_1, fld112_1, fadr112_2, fld112_2, fadr112_3, fld112_3, fadr112_4, fld112_4, fadr112_5, fld112_5, fadr112_6, fld112_6, fadr112_7, fld112_7, fadr112_8, fld112_8, fadr112_9, fld112_9, fadr112_10, fld112_10, tyOk113, agg113, cells113, fadr113_0, fld113_0, fadr113_1, fld113_1, fadr113_2, fld113_2, fadr113_3, fld113_3, fadr113_4, fld113_4, fadr113_5, fld113_5, fadr113_6, fld113_6, fadr113_7, fld113_7, fadr113_8, fld113_8, fadr113_9, fld113_9, fadr113_10, fld113_10, tyOk114, agg114, cells114, zero114, a2, a3, e1]
          refine ⟨i + 1, by omega, _, rfl, by omega, more ⟨hr1, fun q => absurd q hi⟩, ?_, ?_⟩ <;> simp -implicitDefEqProofs only [ne_eq, reduceCtorEq, not_false_eq_true, upd_ne, a2, upd_eq] <;> rfl
      · have d1 : decide (0 ≤ l.getD i 0 ∧ l.getD i 0 ≤ 9999) = false := decide_eq_false hr1
        have hbf : b = false := by
          cases b with
          | false => rfl
          | true => exact absurd ((hb.1 rfl).1 i h).1 hr1
        by_cases hi : 0 < i
        · have k3 : (0 : Int) < i := by omega
          have e2 : IntKind.i64.wrap ((i : Int) - 1) = ((i - 1 : Nat) : Int) := by rw [w64 (by omega) (by omega)]; omega
          have k4 : (0 : Int) ≤ ((i - 1 : Nat) : Int) := by omega
          have k5 : ((i - 1 : Nat) : Int) < l.length := by omega
          have k6 : i - 1 < l.length := by omega
          simp -implicitDefEqProofs only [↓dops_cons, ↓g_unOp, d1, Nat.reduceLT, ev_tab, upd_eq, u_not, Bool.not_false, Option.map_some, ↓g_move, hbf, onS_some, yielded_tab, dstAt_s, dstAt_0, ybv_some, boolOf_b, ↓g_guard_f, ne_eq, Nat.reduceEqDiff, not_false_eq_true, upd_ne, bo_und, ↓g_guard_n, ↓g_pick, ev_const, of_bool, pick_b, if_true, ↓dops_p, ↓w_cond, ↓w_seq, ↓w_region, ↓ops_cons, ↓g_assign, ↓ops_nil, ↓w_ret, ret_one, and_self, ↓w_skip, ↓g_binOp, a3, of_int, b_add, onB_true, and_true]
          exact pairs_cons (same_H rfl) (pairs_cons (same_H rfl) (pairs_cons (same_H rfl) pairs_nil))
        · have k3 : ¬ (0 : Int) < i := by omega
          simp -implicitDefEqProofs only [↓dops_cons, ↓g_unOp, d1, Nat.reduceLT, ev_tab, upd_eq, u_not, Bool.not_false, Option.map_some, ↓g_move, hbf, onS_some, yielded_tab, dstAt_s, dstAt_0, ybv_some, boolOf_b, ↓g_guard_f, ne_eq, Nat.reduceEqDiff, not_false_eq_true, upd_ne, bo_und, ↓g_guard_n, ↓g_pick, ev_const, of_bool, pick_b, if_true, ↓dops_p, ↓w_cond, ↓w_seq, ↓w_region, ↓ops_cons, ↓g_assign, ↓ops_nil, ↓w_ret, ret_one, and_self, ↓w_skip, ↓g_binOp, a3, of_int, b_add, onB_true, and_true]
          exact pairs_cons (same_H rfl) (pairs_cons (same_H rfl) (pairs_cons (same_H rfl) pairs_nil))
    · have k1 : ¬ (i : Int) < l.length := by omega
      have hbt : b = decide ((l.length : Int) ≤ 100) := by
        have hU : UpL l := fun j hj => a0 j (by omega)
        by_cases h100 : l.length ≤ 100
        · rw [hb.2 ⟨hU, h100⟩, decide_eq_true (by omega)]
        · rw [decide_eq_false (by omega)]
          cases b with
          | false => rfl
          | true => exact absurd (hb.1 rfl).2 h100
      simp -implicitDefEqProofs only [↓w_seq, ↓w_region, hbt, ↓ops_cons, ↓g_move, ↓g_len, Try.underlying22, Nat.reduceLT, ev_tab, a3, ne_eq, reduceCtorEq, not_false_eq_true, upd_ne, a2, upd_eq, lx, ↓g_binOp, Nat.reduceEqDiff, ↓ops_nil, ↓w_cond, ↓w_skip, ↓w_block, ↓w_exit, ev_const, of_int, ↓g_assign, ↓w_ret, ret_one, and_true, onS_some, b_leq, if_true, b_lss, k1, decide_false, onB_false]
  · refine ⟨_, rfl, by omega, fun j hj => by omega, ?_, ?_⟩ <;> simp -implicitDefEqProofs only [ne_eq, reduceCtorEq, not_false_eq_true, upd_ne, par0, upd_eq, Int.cast_ofNat_Int] <;> rfl
end Go.Proofs.Ytcjjcpdfnndenaa.Sim
namespace Go.Proofs.Ytcjjcpdfnndenaa.Sim
open Go
set_option maxRecDepth 100000
set_option maxHeartbeats 4000000
set_option linter.unusedSimpArgs false
set_option linter.unusedVariables false
def ackP (l : List Int) (i : Nat) : List Int := varN l.length ++ (l.take i).flatMap fun x => varN x.toNat
theorem ackP_s (l : List Int) (i : Nat) (h : i < l.length) : ackP l i ++ varN (l.getD i 0).toNat = ackP l (i + 1) := by
  rw [ackP, ackP, List.take_add_one, List.getD_eq_getElem?_getD, List.getElem?_eq_getElem h, List.append_assoc]
  simp only [Option.getD_some, Option.toList_some, List.flatMap_append, List.flatMap_cons, List.flatMap_nil, List.append_nil]
def ackT (l : List Int) : ByteArray := strOfNums (ackP l l.length)
theorem up_nat {l : List Int} (h : UpL l) {i : Nat} (hi : i < l.length) : l.getD i 0 = (((l.getD i 0).toNat : Nat) : Int) ∧ (l.getD i 0).toNat ≤ 9999 := by
  have := (h i hi).1
  omega
theorem ackI {H : AHeap} {x : AV} {l : List Int} (h : UpL l) (h100 : l.length ≤ 100) (hx : IsL H x .i64 l) : Sound Try.prog 14 [x] H (.tup [.sc (.string (ackT l)), .sc (.bool true)]) H := by
  refine Sound.run 40 [.tmp 2, .tmp 3] Try.func14 rfl rfl rfl rfl (by simp) ?_
  have lx := fun e => hx.len e
  simp -implicitDefEqProofs only [↓w_seq, ↓w_region, ↓ops_cons, ↓g_assign, ↓ops_nil, ev_const, of_str, of_bool, ↓g_move, Nat.reduceLT, ev_tab, ne_eq, reduceCtorEq, not_false_eq_true, upd_ne, par0]
  refine call1S (by simp -implicitDefEqProofs only [List.map_cons, Nat.reduceLT, ev_tab, upd_eq, List.map_nil] <;> rfl) (upI true (by simp [h]) hx (by omega)) ?_
  have k0 : ¬ (100 : Int) < l.length := by omega
  simp -implicitDefEqProofs only [↓ops_cons, ↓g_unOp, Nat.reduceLT, ev_tab, upd_eq, u_not, Bool.not_true, Option.map_some, ↓g_move, onS_some, yielded_tab, dstAt_s, dstAt_0, ybv_some, boolOf_b, ↓g_guard_t, ne_eq, reduceCtorEq, not_false_eq_true, upd_ne, par0, Nat.reduceEqDiff, ↓g_len, Try.underlying22, lx, ↓g_binOp, ev_const, of_int, ↓g_pick, of_bool, pick_b, if_false, ↓ops_nil, ↓w_cond, ↓w_seq, ↓w_region, ↓g_assign, ↓w_ret, of_str, ret_two, and_true, ↓w_skip, b_gtr, k0, decide_false, onB_false]
  refine call1 (by simp -implicitDefEqProofs only [List.map_cons, Nat.reduceLT, ev_tab, upd_eq, List.map_nil] <;> rfl) (varI l.length (by omega)) ?_
  simp -implicitDefEqProofs only [↓ops_cons, ↓g_move, ↓g_extract, Nat.reduceLT, ev_tab, upd_eq, ext_0, ne_eq, Nat.reduceEqDiff, not_false_eq_true, upd_ne, ext_1, ↓g_assign, ↓ops_nil, ↓w_seq, ↓w_region, ↓g_len, Try.underlying22, reduceCtorEq, par0, lx, ↓w_block, ev_const, of_int, onS_some]
  refine w_loop (ι := Nat) (fun i s => ∃ T : Nat → AV, s = ⟨tab 40 T, H⟩ ∧ i ≤ l.length ∧ (ackP l i).length ≤ 5 * (i + 1) ∧ T 4 = .sc (.string (strOfNums (ackP l i))) ∧ T 24 = x ∧ T 25 = .sc (.int .i64 l.length) ∧ T 26 = .sc (.int .i64 i)) (fun i => l.length - i) ?_ (i := 0) ?_
  · rintro i s ⟨T, rfl, a1, a0, a2, a3, a4, a5⟩
    by_cases hi : i < l.length
    · have k1 : (i : Int) < l.length := by omega
      have k2 : (0 : Int) ≤ i := by omega
      obtain ⟨r, o, rfl, hr⟩ := hx.get (i := i) hi
      have e1 : IntKind.i64.wrap ((i : Int) + 1) = i + 1 := w64 (by omega) (by omega)
      obtain ⟨n1, n2⟩ := up_nat h hi
      have hv := varI (l.getD i 0).toNat (by omega)
      rw [← n1] at hv
      have h5 := varN_5 (l.getD i 0).toNat (by omega)
      have hs := ackP_s l i hi
      have hsl : (ackP l (i + 1)).length ≤ 5 * (i + 1 + 1) := by
        rw [← hs, List.length_append]
        omega
      simp -implicitDefEqProofs only [↓w_seq, ↓w_region, ↓ops_cons, ↓g_binOp, Nat.reduceLT, ev_tab, a5, a4, b_lss, k1, decide_true, ↓ops_nil, ↓w_cond, upd_eq, ↓w_skip, ↓w_block, ↓g_indexAddr, Try.underlying22, ne_eq, Nat.reduceEqDiff, not_false_eq_true, upd_ne, a3, adr_sl, k2, cells3, tyOk3, and_self, Int.toNat_natCast, Nat.mul_one, Nat.zero_add, if_true, ↓g_load, ↓g_assign, ↓g_move, onS_some, rd_def, agg3, hr, rd_ints, hi, ↓w_exit, ↓w_ret, a2, ev_const, of_bool, ret_two, and_true, onB_true]
      refine call1 (by simp -implicitDefEqProofs only [List.map_cons, Nat.reduceLT, ev_tab, upd_eq, List.map_nil] <;> rfl) hv ?_
      have hvt : varT (l.getD i 0).toNat = strOfNums (varN (l.getD i 0).toNat) := rfl
      simp -implicitDefEqProofs only [↓ops_cons, ↓g_move, ↓g_extract, hvt, Nat.reduceLT, ev_tab, upd_eq, ext_0, ne_eq, Nat.reduceEqDiff, not_false_eq_true, upd_ne, ext_1, ↓g_assign, ↓ops_nil, ↓w_region, ↓g_binOp, a2, a5, ev_const, of_int, b_add, e1, onS_some, t_add, son_size, son_append, hs, onS_ite]
      refine ⟨by omega, i + 1, by omega, _, rfl, by omega, hsl, ?_, ?_, ?_, ?_⟩ <;> simp -implicitDefEqProofs only [ne_eq, Nat.reduceEqDiff, not_false_eq_true, upd_ne, upd_eq, a3, a4] <;> rfl
    · have k1 : ¬ (i : Int) < l.length := by omega
      have hi2 : i = l.length := by omega
      simp -implicitDefEqProofs only [↓w_seq, ↓w_region, ↓ops_cons, ↓g_binOp, Nat.reduceLT, ev_tab, a5, a4, b_lss, k1, decide_false, ↓ops_nil, ↓w_cond, upd_eq, ↓w_skip, ↓w_block, ↓g_indexAddr, Try.underlying22, ne_eq, Nat.reduceEqDiff, not_false_eq_true, upd_ne, a3, ↓g_load, ↓g_assign, ↓g_move, ↓w_exit, ↓w_ret, a2, ev_const, of_bool, ret_two, and_true, if_true, onS_some, onB_false]
      rw [hi2]
      rfl
  · have h5 := varN_5 l.length (by omega)
    have e0 : ackP l 0 = varN l.length := by simp [ackP]
    refine ⟨_, rfl, by omega, by rw [e0]; omega, ?_, ?_, ?_, ?_⟩
    · simp -implicitDefEqProofs only [ne_eq, Nat.reduceEqDiff, not_false_eq_true, upd_ne, upd_eq, e0]
      rfl
    · simp -implicitDefEqProofs only [ne_eq, Nat.reduceEqDiff, not_false_eq_true, upd_ne, upd_eq]
    · simp -implicitDefEqProofs only [ne_eq, Nat.reduceEqDiff, not_false_eq_true, upd_ne, upd_eq]
    · simp -implicitDefEqProofs only [upd_eq, Int.cast_ofNat_Int]
theorem ackS {H : AHeap} {x : AV} {l : List Int} (h : UpL l) (h100 : l.length ≤ 100) (hx : IsL H x .i64 l) : Sound Try.prog 12 [x] H (.tup [.sc (.string (ackT l)), .sc (.bool true)]) H := by
  refine Sound.run 26 [.tmp 2, .tmp 3] Try.func12 rfl rfl rfl rfl (by simp) ?_
  have lx := fun e => hx.len e
  simp -implicitDefEqProofs only [↓w_seq, ↓w_region, ↓ops_cons, ↓g_assign, ↓ops_nil, ev_const, of_str, of_bool, ↓g_move, Nat.reduceLT, ev_tab, ne_eq, reduceCtorEq, not_false_eq_true, upd_ne, par0]
  refine call1S (by simp -implicitDefEqProofs only [List.map_cons, Nat.reduceLT, ev_tab, upd_eq, List.map_nil] <;> rfl) (upS true (by simp [h, h100]) hx (by omega)) ?_
  simp -implicitDefEqProofs only [↓ops_cons, ↓g_unOp, Nat.reduceLT, ev_tab, upd_eq, u_not, Bool.not_true, Option.map_some, ↓ops_nil, ↓w_cond, ↓w_seq, ↓w_region, ↓g_assign, ↓w_ret, ev_const, of_str, of_bool, ret_two, ne_eq, Nat.reduceEqDiff, not_false_eq_true, upd_ne, and_true, ↓w_skip, ↓g_move, ↓g_len, Try.underlying22, reduceCtorEq, par0, lx, onS_some, onB_false]
  refine call1 (by simp -implicitDefEqProofs only [List.map_cons, Nat.reduceLT, ev_tab, upd_eq, List.map_nil] <;> rfl) (varS l.length (by omega)) ?_
  simp -implicitDefEqProofs only [↓ops_cons, ↓g_assign, ↓ops_nil, ↓w_seq, ↓w_region, Nat.reduceLT, ev_tab, upd_eq, ↓w_block, ev_const, of_int]
  refine w_loop (ι := Nat) (fun i s => ∃ T : Nat → AV, s = ⟨tab 26 T, H⟩ ∧ i ≤ l.length ∧ (ackP l i).length ≤ 5 * (i + 1) ∧ T 0 = x ∧ T 4 = .sc (.string (strOfNums (ackP l i))) ∧ T 5 = .sc (.int .i64 i)) (fun i => l.length - i) ?_ (i := 0) ?_
  · rintro i s ⟨T, rfl, a1, a0, a2, a3, a4⟩
    by_cases hi : i < l.length
    · have k1 : (i : Int) < l.length := by omega
      have k2 : (0 : Int) ≤ i := by omega
      obtain ⟨r, o, rfl, hr⟩ := hx.get (i := i) hi
      have e1 : IntKind.i64.wrap ((i : Int) + 1) = i + 1 := w64 (by omega) (by omega)
      obtain ⟨n1, n2⟩ := up_nat h hi
      have hv := varS (l.getD i 0).toNat (by omega)
      rw [← n1] at hv
      have h5 := varN_5 (l.getD i 0).toNat (by omega)
      have hs := ackP_s l i hi
      have hsl : (ackP l (i + 1)).length ≤ 5 * (i + 1 + 1) := by
        rw [← hs, List.length_append]
        omega
      simp -implicitDefEqProofs only [↓w_seq, ↓w_region, ↓ops_cons, ↓g_move, ↓g_len, Try.underlying22, Nat.reduceLT, ev_tab, a4, ne_eq, reduceCtorEq, not_false_eq_true, upd_ne, a2, upd_eq, lx, ↓g_binOp, Nat.reduceEqDiff, ↓ops_nil, ↓w_cond, ↓w_skip, ↓w_block, ↓g_indexAddr, a3, adr_sl, k2, k1, cells3, tyOk3, and_self, Int.toNat_natCast, Nat.mul_one, Nat.zero_add, if_true, ↓g_load, onS_some, rd_def, agg3, hr, rd_ints, hi, ↓w_exit, ↓g_assign, ↓w_ret, ev_const, of_bool, ret_two, and_true, b_lss, decide_true, onB_true]
      try refine drawn [(4, 0)] follows (by kernel_rfl) (by kernel_rfl) ?_
      try simp -implicitDefEqProofs only [↓w_seq, ↓w_skip, ↓w_ret, ↓w_exit, ↓w_block, ↓w_cond, ↓w_region, ↓ops_nil, ↓ops_cons, ↓dops_0, ↓dops_p, ↓dops_cons, ↓g_move, ↓g_assign, ↓g_binOp, ↓g_unOp, ↓g_pick, ↓g_len, ↓g_index, ↓g_indexAddr, ↓g_slice, ↓g_convert, ↓g_load, ↓g_store, ↓g_extract, ↓g_nilCheck, ↓g_fieldT, ↓g_fieldAddrT, of_agg, rd_aggc, rd_onec, wr_c, cells_int, cells_str, cells_bool, cells_nil, cells_sl, cells_ptr, cells_agg, one_int, one_str, one_bool, one_nil, one_sl, one_ptr, over_0, over_s, List.all_cons, List.all_nil, Bool.and_true, Bool.and_self, List.getElem?_nil, List.drop_succ_cons, List.drop_nil, ↓g_guard_t, ↓g_guard_f, ↓g_alloc, ↓g_box, ↓g_buildSlice, ↓g_makeSlice, ↓g_buildV, rdA, wrA, ints_one, List.length_replicate, bools_one, strs_one, rd_bools, rd_strs, wr_bools, wr_strs, at_bools, at_strs, ap_bools, ap_boolsN, ap_strs, ap_strsN, ↓g_append, src_sl, src_nil, src_str, ap_ints, ap_intsN, kill_len, kill_0, kill_s, bnd_none, bnd_int, cut_str, cutS_some, cut_sl, cutL_some, bits_i64, bits_u32, bits_u8, List.getD_cons_zero, List.getD_cons_succ, at_end, at_a, at_b, yielded_tab, dstAt_0, dstAt_s, ybv_some, boolOf_b, ext_0, ext_1, ext_2, ext_3, alK_some, ev_tab, ev_const, upd_eq, upd_ne, par0, par1, par2, par3, par4, par5, of_int, of_str, of_bool, len_str, len_arr, len_sl, idx_str, adr_sl, adr_arr, c_int, c_str, c_bytes, c_text, pick_b, onS_some, onS_ite, onS_not, b_add, b_sub, b_mul, b_and, b_or, b_xor, b_eql, b_neq, b_lss, b_leq, b_gtr, b_geq, b_shl, b_shr, b_quo, b_rem, t_add, t_eql, t_neq, v_eql, v_neq, b_andNot, u_not, onB_true, onB_false, onB_dec, onB_not, ret_cell, ret_ct, retP_0, retP_1, retP_2, retP_3, res_tmp, res_cell, ret_one, ret_two, ret_three, ret_none, List.set_set, if_true, if_false, ite_true, ite_false, List.map_cons, List.map_nil, Option.map_some, Option.map_none, List.toList_toArray, rd_def, rd_ints, wr_def, wr_ints, at_def, at_ints, bytes_ints, bytesA_ints, ints_set, nums_len, List.length_nil, List.length_cons, List.length_set, List.length_append, List.nil_append, List.cons_append, List.getElem?_cons_zero, List.getElem?_cons_succ, List.set_cons_zero, List.set_cons_succ, List.drop_zero, List.take_succ_cons, List.take_zero, List.take_length, Option.bind_some, true_and, and_true, Nat.zero_add, Nat.mul_one, Int.toNat_zero, Int.reduceToNat, Int.reduceAdd, Int.reduceSub, Int.reduceMul, Int.reduceNeg, Nat.reduceAdd, Nat.reduceSub, Nat.reduceMul, Nat.reducePow, Nat.min_eq_left, Int.reducePow, Nat.le_refl, Int.cast_ofNat_Int, Nat.reduceLT, Nat.reduceLeDiff, Nat.reduceEqDiff, Int.reduceLE, Int.reduceLT, Int.reduceEq, ne_eq, not_false_eq_true, not_true_eq_false, reduceCtorEq, decide_true, decide_false, and_self, and_false, false_and, Bool.not_true, Bool.not_false, Try.underlying0, Try.underlying1, Try.underlying2, Try.underlying3, Try.underlying4, Try.underlying5, Try.underlying6, Try.underlying7, Try.underlying8, Try.underlying9, Try.underlying10, Try.underlying11, Try.underlying12, Try.underlying13, Try.underlying14, Try.underlying15, Try.underlying16, Try.underlying17, Try.underlying18, Try.underlying19, Try.underlying20, Try.underlying21, Try.underlying22, Try.underlying23, Try.underlying24, Try.underlying25, Try.underlying26, Try.underlying27, Try.underlying28, Try.underlying29, Try.underlying30, Try.underlying31, Try.underlying32, Try.underlying33, Try.underlying34, Try.underlying35, Try.underlying36, Try.underlying37, Try.underlying38, Try.underlying39, Try.underlying40, Try.underlying41, Try.underlying42, Try.underlying43, Try.underlying44, Try.underlying45, Try.underlying46, Try.underlying47, Try.underlying48, Try.underlying49, Try.underlying50, Try.underlying51, Try.underlying52, Try.underlying53, Try.underlying54, Try.underlying55, Try.underlying56, Try.underlying57, Try.underlying58, Try.underlying59, Try.underlying60, Try.underlying61, Try.underlying62, Try.underlying63, Try.underlying64, Try.underlying65, Try.underlying66, Try.underlying67, Try.underlying68, Try.underlying69, Try.underlying70, Try.underlying71, Try.underlying72, Try.underlying73, Try.underlying74, Try.underlying75, Try.underlying76, Try.underlying77, Try.underlying78, Try.underlying79, Try.underlying80, Try.underlying81, Try.underlying82, Try.underlying83, Try.underlying84, Try.underlying85, Try.underlying86, Try.underlying87, Try.underlying88, Try.underlying89, Try.underlying90, Try.underlying91, Try.underlying92, Try.underlying93, Try.underlying94, Try.underlying95, Try.underlying96, Try.underlying97, Try.underlying98, Try.underlying99, Try.underlying100, Try.underlying101, Try.underlying102, Try.underlying103, Try.underlying104, Try.underlying105, Try.underlying106, Try.underlying107, Try.underlying108, Try.underlying109, Try.underlying110, Try.underlying111, Try.underlying112, Try.underlying113, Try.underlying114, tyOk0, agg0, cells0, tyOk1, agg1, cells1, tyOk2, agg2, cells2, zero2, info2, mk2, bs2_0, bs2_1, bs2_2, bs2_3, bs2_4, bs2_5, bs2_6, bs2_7, bs2_8, bs2_10, bs2_11, bs2_12, bs2_13, tyOk3, agg3, cells3, zero3, apS22, apN22, info3, mk3, bs3_0, bs3_1, bs3_2, bs3_3, bs3_4, bs3_5, bs3_6, bs3_7, bs3_8, bs3_10, bs3_11, bs3_12, bs3_13, tyOk4, agg4, cells4, zero4, info4, mk4, bs4_0, bs4_1, bs4_2, tyOk5, agg5, cells5, isU5, zero5, apS46, apN46, apStr46, info5, mk5, bs5_0, bs5_1, bs5_2, bs5_3, bs5_4, bs5_5, bs5_6, bs5_7, bs5_8, bs5_10, bs5_11, bs5_12, bs5_13, tyOk6, agg6, cells6, isU6, zero6, info6, mk6, bs6_0, bs6_1, bs6_2, bs6_3, bs6_4, bs6_5, bs6_6, bs6_7, bs6_8, bs6_10, bs6_11, bs6_12, bs6_13, tyOk7, agg7, cells7, zero7, fadr7_0, fld7_0, fadr7_1, fld7_1, fadr7_2, fld7_2, fadr7_3, fld7_3, bz7, bds7, tyOk8, agg8, cells8, zero8, fadr8_0, fld8_0, fadr8_1, fld8_1, fadr8_2, fld8_2, fadr8_3, fld8_3, bz8, bds8, tyOk9, agg9, cells9, zero9, info9, bs9_0, bs9_1, bs9_2, bs9_3, bs9_4, bs9_5, bs9_6, bs9_8, bs9_9, bs9_10, tyOk10, agg10, cells10, zero10, info10, bs10_0, bs10_1, bs10_2, bs10_3, bs10_4, bs10_5, bs10_6, bs10_8, bs10_9, bs10_10, tyOk11, agg11, cells11, zero11, info11, bs11_0, bs11_1, bs11_2, bs11_3, bs11_4, bs11_5, bs11_6, bs11_8, bs11_9, bs11_10, tyOk12, agg12, cells12, zero12, info12, mk12, bs12_0, bs12_1, bs12_2, bs12_3, bs12_4, bs12_5, bs12_6, bs12_7, bs12_8, bs12_10, bs12_11, bs12_12, bs12_13, tyOk13, agg13, cells13, zero13, fadr13_0, fld13_0, fadr13_1, fld13_1, bz13, bds13, tyOk14, agg14, cells14, zero14, fadr14_0, fld14_0, fadr14_1, fld14_1, bz14, bds14, tyOk15, agg15, cells15, zero15, tyOk16, agg16, cells16, zero16, tyOk17, agg17, cells17, zero17, tyOk18, agg18, cells18, zero18, fadr18_0, fld18_0, bz18, bds18, tyOk19, agg19, cells19, zero19, fadr19_0, fld19_0, bz19, bds19, tyOk20, agg20, cells20, tyOk21, agg21, cells21, zero21, info21, mk21, bs21_0, bs21_1, bs21_2, bs21_3, bs21_4, bs21_5, bs21_6, bs21_7, bs21_8, bs21_10, bs21_11, bs21_12, bs21_13, tyOk22, agg22, cells22, zero22, tyOk23, agg23, cells23, tyOk24, agg24, cells24, tyOk25, agg25, cells25, tyOk26, agg26, cells26, tyOk27, agg27, cells27, tyOk28, agg28, cells28, zero28, fadr28_0, fld28_0, fadr28_1, fld28_1, fadr28_2, fld28_2, bz28, bds28, tyOk29, agg29, cells29, zero29, fadr29_0, fld29_0, fadr29_1, fld29_1, fadr29_2, fld29_2, bz29, bds29, tyOk30, agg30, cells30, tyOk31, agg31, cells31, tyOk32, agg32, cells32, zero32, fadr32_0, fld32_0, fadr32_1, fld32_1, fadr32_2, fld32_2, bz32, bds32, tyOk33, agg33, cells33, tyOk34, agg34, cells34, tyOk35, agg35, cells35, tyOk36, agg36, cells36, tyOk37, agg37, cells37, tyOk38, agg38, cells38, tyOk39, agg39, cells39, tyOk40, agg40, cells40, tyOk41, agg41, cells41, tyOk42, agg42, cells42, tyOk43, agg43, cells43, tyOk44, agg44, cells44, tyOk45, agg45, cells45, tyOk46, agg46, cells46, zero46, tyOk47, agg47, cells47, tyOk48, agg48, cells48, tyOk49, agg49, cells49, tyOk50, agg50, cells50, tyOk51, agg51, cells51, tyOk52, agg52, cells52, tyOk53, agg53, cells53, tyOk54, agg54, cells54, tyOk55, agg55, cells55, tyOk56, agg56, cells56, tyOk57, agg57, cells57, tyOk58, agg58, cells58, tyOk59, agg59, cells59, tyOk60, agg60, cells60, tyOk61, agg61, cells61, zero61, tyOk62, agg62, cells62, tyOk63, agg63, cells63, tyOk64, agg64, cells64, tyOk65, agg65, cells65, tyOk66, agg66, cells66, tyOk67, agg67, cells67, tyOk68, agg68, cells68, tyOk69, agg69, cells69, tyOk70, agg70, cells70, zero70, fadr70_0, fld70_0, fadr70_1, fld70_1, fadr70_2, fld70_2, bz70, bds70, tyOk71, agg71, cells71, zero71, fadr71_0, fld71_0, fadr71_1, fld71_1, fadr71_2, fld71_2, bz71, bds71, tyOk72, agg72, cells72, zero72, info72, mk72, bs72_0, bs72_1, bs72_2, bs72_3, bs72_4, bs72_5, bs72_6, bs72_7, bs72_8, bs72_10, bs72_11, bs72_12, bs72_13, tyOk73, agg73, cells73, tyOk74, agg74, cells74, tyOk75, agg75, cells75, tyOk76, agg76, cells76, tyOk77, agg77, cells77, zero77, info77, mk77, bs77_0, bs77_1, bs77_2, bs77_3, bs77_4, bs77_5, bs77_6, bs77_7, bs77_8, bs77_10, bs77_11, bs77_12, bs77_13, tyOk78, agg78, cells78, tyOk79, agg79, cells79, tyOk80, agg80, cells80, tyOk81, agg81, cells81, tyOk82, agg82, cells82, tyOk83, agg83, cells83, tyOk84, agg84, cells84, tyOk85, agg85, cells85, tyOk86, agg86, cells86, zero86, info86, mk86, bs86_0, bs86_1, bs86_2, bs86_3, bs86_4, bs86_5, bs86_6, bs86_7, bs86_8, bs86_10, bs86_11, bs86_12, bs86_13, tyOk87, agg87, cells87, tyOk88, agg88, cells88, zero88, info88, mk88, bs88_0, bs88_1, bs88_2, bs88_3, bs88_4, bs88_5, bs88_6, bs88_7, bs88_8, bs88_10, bs88_11, bs88_12, bs88_13, tyOk89, agg89, cells89, zero89, info89, mk89, bs89_0, bs89_1, bs89_2, bs89_3, bs89_4, bs89_5, bs89_6, bs89_7, bs89_8, bs89_10, bs89_11, bs89_12, bs89_13, tyOk90, agg90, cells90, tyOk91, agg91, cells91, tyOk92, agg92, cells92, tyOk93, agg93, cells93, zero93, tyOk94, agg94, cells94, tyOk95, agg95, cells95, tyOk96, agg96, cells96, zero96, tyOk97, agg97, cells97, tyOk98, agg98, cells98, tyOk99, agg99, cells99, tyOk100, agg100, cells100, zero100, fadr100_0, fld100_0, fadr100_1, fld100_1, fadr100_2, fld100_2, fadr100_3, fld100_3, bz100, bds100, tyOk101, agg101, cells101, zero101, fadr101_0, fld101_0, fadr101_1, fld101_1, fadr101_2, fld101_2, fadr101_3, fld101_3, bz101, bds101, tyOk102, agg102, cells102, zero102, tyOk103, agg103, cells103, zero103, tyOk104, agg104, cells104, zero104, tyOk105, agg105, cells105, tyOk106, agg106, cells106, isU106, zero106, info106, mk106, bs106_0, bs106_1, bs106_2, bs106_3, bs106_4, bs106_5, bs106_6, bs106_7, bs106_8, bs106_10, bs106_11, bs106_12, bs106_13, tyOk107, agg107, cells107, isU107, zero107, info107, mk107, bs107_0, bs107_1, bs107_2, bs107_3, bs107_4, bs107_5, bs107_6, bs107_7, bs107_8, bs107_10, bs107_11, bs107_12, bs107_13, tyOk108, agg108, cells108, tyOk109, agg109, cells109, zero109, tyOk110, agg110, cells110, zero110, info110, mk110, bs110_0, bs110_1, bs110_2, bs110_3, bs110_4, bs110_5, bs110_6, bs110_7, bs110_8, bs110_10, bs110_11, bs110_12, bs110_13, tyOk111, agg111, cells111, zero111, info111, mk111, bs111_0, bs111_1, bs111_2, bs111_3, bs111_4, bs111_5, bs111_6, bs111_7, bs111_8, bs111_10, bs111_11, bs111_12, bs111_13, tyOk112, agg112, cells112, fadr112_0, fld112_0, fadr112_1, fld112_1, fadr112_2, fld112_2, fadr112_3, fld112_3, fadr112_4, fld112_4, fadr112_5, fld112_5, fadr112_6, fld112_6, fadr112_7, fld112_7, fadr112_8, fld112_8, fadr112_9, fld112_9, fadr112_10, fld112_10, tyOk113, agg113, cells113, fadr113_0, fld113_0, fadr113_1, fld113_1, fadr113_2, fld113_2, fadr113_3, fld113_3, fadr113_4, fld113_4, fadr113_5, fld113_5, fadr113_6, fld113_6, fadr113_7, fld113_7, fadr113_8, fld113_8, fadr113_9, fld113_9, fadr113_10, fld113_10, tyOk114, agg114, cells114, zero114, a2, a3, a4, lx, k1, k2, hi, hr, Int.toNat_natCast]
      refine call1 (by simp -implicitDefEqProofs only [List.map_cons, Nat.reduceLT, ev_tab, upd_eq, List.map_nil] <;> rfl) hv ?_
      have hvt : varT (l.getD i 0).toNat = strOfNums (varN (l.getD i 0).toNat) := rfl
      simp -implicitDefEqProofs only [↓ops_cons, ↓g_binOp, hvt, Nat.reduceLT, ev_tab, ne_eq, Nat.reduceEqDiff, not_false_eq_true, upd_ne, upd_eq, t_add, son_size, son_append, hs, ↓g_assign, ↓ops_nil, ↓w_region, ↓g_move, a4, ev_const, of_int, b_add, e1, onS_some, onS_ite]
      refine ⟨by omega, i + 1, by omega, _, rfl, by omega, hsl, ?_, ?_, ?_⟩ <;> simp -implicitDefEqProofs only [ne_eq, reduceCtorEq, not_false_eq_true, upd_ne, a2, Nat.reduceEqDiff, upd_eq] <;> rfl
    · have k1 : ¬ (i : Int) < l.length := by omega
      have hi2 : i = l.length := by omega
      simp -implicitDefEqProofs only [↓w_seq, ↓w_region, ↓ops_cons, ↓g_move, ↓g_len, Try.underlying22, Nat.reduceLT, ev_tab, a4, ne_eq, reduceCtorEq, not_false_eq_true, upd_ne, a2, upd_eq, lx, ↓g_binOp, Nat.reduceEqDiff, ↓ops_nil, ↓w_cond, ↓w_skip, ↓w_block, ↓g_indexAddr, a3, ↓g_load, ↓w_exit, ↓g_assign, ↓w_ret, ev_const, of_bool, ret_two, and_true, if_true, onS_some, b_lss, k1, decide_false, onB_false]
      rw [hi2]
      rfl
  · have h5 := varN_5 l.length (by omega)
    have e0 : ackP l 0 = varN l.length := by simp [ackP]
    refine ⟨_, rfl, by omega, by rw [e0]; omega, ?_, ?_, ?_⟩
    · simp -implicitDefEqProofs only [ne_eq, reduceCtorEq, not_false_eq_true, upd_ne, par0]
    · simp -implicitDefEqProofs only [ne_eq, Nat.reduceEqDiff, not_false_eq_true, upd_ne, upd_eq, e0]
      rfl
    · simp -implicitDefEqProofs only [upd_eq, Int.cast_ofNat_Int]
theorem ackNoI {H : AHeap} {x : AV} {l : List Int} (h : ¬ (UpL l ∧ l.length ≤ 100)) (hl : l.length ≤ 1000000000) (hx : IsL H x .i64 l) : Sound Try.prog 14 [x] H (.tup [.sc (.string ByteArray.empty), .sc (.bool false)]) H := by
  refine Sound.run 40 [.tmp 2, .tmp 3] Try.func14 rfl rfl rfl rfl (by simp) ?_
  have lx := fun e => hx.len e
  simp -implicitDefEqProofs only [↓w_seq, ↓w_region, ↓ops_cons, ↓g_assign, ↓ops_nil, ev_const, of_str, of_bool, ↓g_move, Nat.reduceLT, ev_tab, ne_eq, reduceCtorEq, not_false_eq_true, upd_ne, par0]
  by_cases hU : UpL l
  · refine call1S (by simp -implicitDefEqProofs only [List.map_cons, Nat.reduceLT, ev_tab, upd_eq, List.map_nil] <;> rfl) (upI true (by simp [hU]) hx (by omega)) ?_
    have k0 : (100 : Int) < l.length := by
      have : ¬ l.length ≤ 100 := fun q => h ⟨hU, q⟩
      omega
    simp -implicitDefEqProofs only [↓ops_cons, ↓g_unOp, Nat.reduceLT, ev_tab, upd_eq, u_not, Bool.not_true, Option.map_some, ↓g_move, onS_some, yielded_tab, dstAt_s, dstAt_0, ybv_some, boolOf_b, ↓g_guard_t, ne_eq, reduceCtorEq, not_false_eq_true, upd_ne, par0, Nat.reduceEqDiff, ↓g_len, Try.underlying22, lx, ↓g_binOp, ev_const, of_int, ↓g_pick, of_bool, pick_b, if_false, ↓ops_nil, ↓w_cond, ↓w_seq, ↓w_region, ↓g_assign, ↓w_ret, of_str, ret_two, and_true, ↓w_skip, b_gtr, k0, decide_true, onB_true]
    try rfl
  · refine call1S (by simp -implicitDefEqProofs only [List.map_cons, Nat.reduceLT, ev_tab, upd_eq, List.map_nil] <;> rfl) (upI false (by simp [hU]) hx (by omega)) ?_
    simp -implicitDefEqProofs only [↓ops_cons, ↓g_unOp, Nat.reduceLT, ev_tab, upd_eq, u_not, Bool.not_false, Option.map_some, ↓g_move, onS_some, yielded_tab, dstAt_s, dstAt_0, ybv_some, boolOf_b, ↓g_guard_f, ne_eq, Nat.reduceEqDiff, not_false_eq_true, upd_ne, ↓g_pick, ev_const, of_bool, pick_b, if_true, ↓ops_nil, ↓w_cond, ↓w_seq, ↓w_region, ↓g_assign, ↓w_ret, of_str, ret_two, and_true, ↓w_skip, ↓g_len, Try.underlying22, reduceCtorEq, par0, onB_true]
    try rfl
theorem ackNoS {H : AHeap} {x : AV} {l : List Int} (h : ¬ (UpL l ∧ l.length ≤ 100)) (hl : l.length ≤ 1000000000) (hx : IsL H x .i64 l) : Sound Try.prog 12 [x] H (.tup [.sc (.string ByteArray.empty), .sc (.bool false)]) H := by
  refine Sound.run 26 [.tmp 2, .tmp 3] Try.func12 rfl rfl rfl rfl (by simp) ?_
  simp -implicitDefEqProofs only [↓w_seq, ↓w_region, ↓ops_cons, ↓g_assign, ↓ops_nil, ev_const, of_str, of_bool, ↓g_move, Nat.reduceLT, ev_tab, ne_eq, reduceCtorEq, not_false_eq_true, upd_ne, par0]
  refine call1S (by simp -implicitDefEqProofs only [List.map_cons, Nat.reduceLT, ev_tab, upd_eq, List.map_nil] <;> rfl) (upS false (by simpa using h) hx (by omega)) ?_
  simp -implicitDefEqProofs only [↓ops_cons, ↓g_unOp, Nat.reduceLT, ev_tab, upd_eq, u_not, Bool.not_false, Option.map_some, ↓ops_nil, ↓w_cond, ↓w_seq, ↓w_region, ↓g_assign, ↓w_ret, ev_const, of_str, of_bool, ret_two, ne_eq, Nat.reduceEqDiff, not_false_eq_true, upd_ne, and_true, ↓w_skip, ↓g_move, ↓g_len, Try.underlying22, reduceCtorEq, par0, onS_some, onB_true]
  try rfl
end Go.Proofs.Ytcjjcpdfnndenaa.Sim
namespace Go.Proofs.Ytcjjcpdfnndenaa.Sim
open Go
set_option maxRecDepth 100000
set_option linter.unusedSimpArgs false
set_option linter.unusedVariables false
theorem eqS {H : AHeap} {x y : AV} {l m : List Int} (hx : IsL H x .i64 l) (hy : IsL H y .i64 m) (hl : l.length ≤ 1000000000000) (hm : m.length ≤ 1000000000000) : Sound Try.prog 15 [x, y] H (.sc (.bool (decide (l = m)))) H := by
  refine Sound.run 26 [.tmp 4] Try.func15 rfl rfl rfl rfl (by simp) ?_
  have lx := fun e => hx.len e
  have ly := fun e => hy.len e
  simp -implicitDefEqProofs only [↓w_seq, ↓w_region, ↓ops_cons, ↓g_assign, ↓ops_nil, ev_const, of_bool, ↓g_move, ↓g_len, Try.underlying22, Nat.reduceLT, ev_tab, ne_eq, reduceCtorEq, not_false_eq_true, upd_ne, par0, upd_eq, lx, Nat.reduceEqDiff, par1, ly, ↓g_binOp, ↓w_cond, ↓w_ret, ret_one, and_true, ↓w_skip, ↓w_block, of_int, onS_some, b_neq, onB_not, onB_dec]
  by_cases e : (l.length : Int) = m.length
  · rw [if_pos e]
    have e0 : l.length = m.length := by omega
    refine w_loop (ι := Nat) (fun i s => ∃ T : Nat → AV, s = ⟨tab 26 T, H⟩ ∧ i ≤ l.length ∧ (∀ j, j < i → l.getD j 0 = m.getD j 0) ∧ T 0 = x ∧ T 1 = y ∧ T 5 = .sc (.int .i64 i)) (fun i => l.length - i) ?_ (i := 0) ?_
    · rintro i s ⟨T, rfl, a1, a2, a3, a4, a5⟩
      by_cases h : i < l.length
      · have k1 : (i : Int) < l.length := by omega
        have k2 : (0 : Int) ≤ i := by omega
        have k3 : (i : Int) < m.length := by omega
        have k4 : i < m.length := by omega
        simp -implicitDefEqProofs only [↓w_seq, ↓w_region, ↓ops_cons, ↓g_move, ↓g_len, Try.underlying22, Nat.reduceLT, ev_tab, a5, ne_eq, reduceCtorEq, not_false_eq_true, upd_ne, a3, upd_eq, lx, ↓g_binOp, Nat.reduceEqDiff, ↓ops_nil, ↓w_cond, ↓w_skip, ↓w_block, ↓w_exit, ↓g_assign, ↓w_ret, ev_const, of_bool, ret_one, and_true, if_true, onS_some, b_lss, k1, decide_true, onB_true]
        refine drawn [(3, 0), (7, 0)] follows (by kernel_rfl) (by kernel_rfl) ?_
        obtain ⟨r, o, rfl, hr⟩ := hx.get h
        obtain ⟨q, o2, rfl, hq⟩ := hy.get (i := i) (by omega)
        simp -implicitDefEqProofs only [↓dops_cons, ↓g_move, ↓g_indexAddr, Try.underlying22, Nat.reduceLT, ev_tab, ne_eq, reduceCtorEq, not_false_eq_true, upd_ne, a3, Nat.reduceEqDiff, a5, upd_eq, adr_sl, k2, k1, cells3, tyOk3, and_self, Int.toNat_natCast, Nat.mul_one, Nat.zero_add, if_true, ↓g_load, a4, k3, ↓g_binOp, ↓dops_p, ↓w_cond, ↓w_seq, ↓w_region, ↓ops_cons, ↓g_assign, ↓ops_nil, ↓w_ret, ev_const, of_bool, ret_one, and_true, ↓w_skip, of_int, b_add, onS_some, rd_def, agg3, hq, rd_ints, k4, hr, h, b_neq, onB_not, onB_dec]
        refine ⟨pairs_cons (same_H rfl) (pairs_cons (same_H rfl) pairs_nil), ?_⟩
        by_cases q : l.getD i 0 = m.getD i 0
        · have e1 : IntKind.i64.wrap ((i : Int) + 1) = i + 1 := w64 (by omega) (by omega)
          simp -implicitDefEqProofs only [q, decide_true, Bool.not_true, e1, if_true]
          refine ⟨i + 1, by omega, _, rfl, by omega, ?_, ?_, ?_, ?_⟩
          · intro j hj
            rcases Nat.lt_or_ge j i with hj2 | hj2
            · exact a2 j hj2
            · have : j = i := by omega
              subst this; exact q
          · simp -implicitDefEqProofs only [ne_eq, reduceCtorEq, not_false_eq_true, upd_ne, a3]
          · simp -implicitDefEqProofs only [ne_eq, Nat.reduceEqDiff, not_false_eq_true, upd_ne, a4]
          · simp -implicitDefEqProofs only [upd_eq] <;> rfl
        · have hne : l ≠ m := fun h => q (by rw [h])
          simp -implicitDefEqProofs only [q, decide_false, Bool.not_false, hne, if_false]
      · have k1 : ¬ (i : Int) < l.length := by omega
        have heq : l = m := by
          apply List.ext_getElem e0
          intro j h1 h2
          have := a2 j (by omega)
          simpa [h1, h2] using this
        have hd : decide (l = m) = true := by simp [heq]
        rw [hd]
        simp -implicitDefEqProofs only [↓w_seq, ↓w_region, ↓ops_cons, ↓g_move, ↓g_len, Try.underlying22, Nat.reduceLT, ev_tab, a5, ne_eq, reduceCtorEq, not_false_eq_true, upd_ne, a3, upd_eq, lx, ↓g_binOp, Nat.reduceEqDiff, ↓ops_nil, ↓w_cond, ↓w_skip, ↓w_block, ↓w_exit, ↓g_assign, ↓w_ret, ev_const, of_bool, ret_one, and_self, if_true, onS_some, b_lss, k1, decide_false, onB_false]
    · refine ⟨_, rfl, by omega, ?_, ?_, ?_, ?_⟩
      · intro j hj; omega
      · simp -implicitDefEqProofs only [ne_eq, reduceCtorEq, not_false_eq_true, upd_ne, par0]
      · simp -implicitDefEqProofs only [ne_eq, Nat.reduceEqDiff, not_false_eq_true, upd_ne, par1]
      · simp -implicitDefEqProofs only [upd_eq, Int.cast_ofNat_Int] <;> rfl
  · have hne : l ≠ m := fun h => e (by rw [h])
    rw [if_neg e]
    simp -implicitDefEqProofs only [hne, decide_false]
def marked (k : Int) (n : Nat) : List Int := (List.range n).map fun i => k + (i : Nat)
theorem marked_len (k : Int) (n : Nat) : (marked k n).length = n := by simp [marked]
theorem marked_get (k : Int) (n i : Nat) (h : i < n) : (marked k n).getD i 0 = k + i := by simp [marked, h]
theorem heldS {H : AHeap} {x : AV} {n : Nat} (hx : IsL H x .i64 (marked 1 n)) (hn : n ≤ 1000000000000) : Sound Try.prog 23 [x, .sc (.int .i64 1)] H (.sc (.int .i64 (n + 1))) H := by
  refine Sound.run 21 [.tmp 4] Try.func23 rfl rfl rfl rfl (by simp) ?_
  have lx := fun e => hx.len e
  simp only [marked_len] at lx
  simp -implicitDefEqProofs only [↓w_seq, ↓w_region, Int.reduceNeg, ↓ops_cons, ↓g_assign, ↓ops_nil, ev_const, of_int, ↓w_block]
  refine w_loop (ι := Nat) (fun i s => ∃ T : Nat → AV, s = ⟨tab 21 T, H⟩ ∧ i ≤ n ∧ T 0 = x ∧ T 1 = .sc (.int .i64 (1 + i)) ∧ T 5 = .sc (.int .i64 i)) (fun i => n - i) ?_ (i := 0) ?_
  · rintro i s ⟨T, rfl, a1, a3, a4, a5⟩
    by_cases h : i < n
    · have k1 : (i : Int) < n := by omega
      have k2 : (0 : Int) ≤ i := by omega
      obtain ⟨r, o, rfl, hr⟩ := hx.get (i := i) (by rw [marked_len]; exact h)
      have e1 : IntKind.i64.wrap ((i : Int) + 1) = i + 1 := w64 (by omega) (by omega)
      have e2 : IntKind.i64.wrap (1 + (i : Int) + 1) = 1 + (i : Int) + 1 := w64 (by omega) (by omega)
      simp -implicitDefEqProofs only [↓w_seq, ↓w_region, Int.reduceNeg, marked_len, ↓ops_cons, ↓g_move, ↓g_len, Try.underlying22, Nat.reduceLT, ev_tab, a5, ne_eq, reduceCtorEq, not_false_eq_true, upd_ne, a3, upd_eq, len_sl, ↓g_binOp, Nat.reduceEqDiff, ↓ops_nil, ↓w_cond, ↓w_skip, ↓w_block, ↓g_indexAddr, adr_sl, k2, k1, cells3, tyOk3, and_self, Int.toNat_natCast, Nat.mul_one, Nat.zero_add, if_true, ↓g_load, a4, ↓g_assign, ↓w_ret, ev_const, of_int, ret_one, and_true, b_add, e2, e1, onS_some, rd_def, agg3, hr, rd_ints, h, marked_get, b_neq, decide_true, Bool.not_true, onB_false, ↓w_exit, b_lss, onB_true]
      refine ⟨i + 1, by omega, _, rfl, by omega, ?_, ?_, ?_⟩
      · simp -implicitDefEqProofs only [ne_eq, reduceCtorEq, not_false_eq_true, upd_ne, a3, marked_len]
      · simp -implicitDefEqProofs only [ne_eq, Nat.reduceEqDiff, not_false_eq_true, upd_ne, upd_eq]
        congr 2
        try omega
      · simp -implicitDefEqProofs only [upd_eq] <;> rfl
    · have k1 : ¬ (i : Int) < n := by omega
      have e : i = n := by omega
      subst e
      simp -implicitDefEqProofs only [↓w_seq, ↓w_region, Int.reduceNeg, ↓ops_cons, ↓g_move, ↓g_len, Try.underlying22, Nat.reduceLT, ev_tab, a5, ne_eq, reduceCtorEq, not_false_eq_true, upd_ne, a3, upd_eq, lx, ↓g_binOp, Nat.reduceEqDiff, ↓ops_nil, ↓w_cond, ↓w_skip, ↓w_block, ↓g_indexAddr, ↓g_load, a4, ↓g_assign, ↓w_ret, ev_const, of_int, ret_one, and_true, b_add, onS_some, ↓w_exit, if_true, b_lss, k1, decide_false, onB_false]
      rw [Int.add_comm]
  · refine ⟨_, rfl, by omega, ?_, ?_, ?_⟩
    · simp -implicitDefEqProofs only [ne_eq, reduceCtorEq, not_false_eq_true, upd_ne, par0]
    · simp -implicitDefEqProofs only [ne_eq, Nat.reduceEqDiff, not_false_eq_true, upd_ne, par1, Int.cast_ofNat_Int, Int.reduceAdd] <;> rfl
    · simp -implicitDefEqProofs only [upd_eq, Int.cast_ofNat_Int] <;> rfl
/-- The heap behind the marks. -/
theorem markS {H : AHeap} {r : Nat} {l : List Int} (hr : H[r]? = some ⟨ints .i64 l, true, true⟩) (hl : l.length ≤ 1000000000000) : Sound Try.prog 22 [.sl r 0 l.length 1, .sc (.int .i64 1)] H (.sc (.int .i64 (l.length + 1))) (H.set r ⟨ints .i64 (marked 1 l.length), true, true⟩) := by
  refine Sound.run 19 [.tmp 4] Try.func22 rfl rfl rfl rfl (by simp) ?_
  have hrl : r < H.length := (List.getElem?_eq_some_iff.1 hr).1
  simp -implicitDefEqProofs only [↓w_seq, ↓w_region, ↓ops_cons, ↓g_assign, ↓ops_nil, ev_const, of_int, ↓w_block]
  refine w_loop (ι := Nat) (fun i s => ∃ (T : Nat → AV) (u : List Int), s = ⟨tab 19 T, H.set r ⟨ints .i64 u, true, true⟩⟩ ∧ u.length = l.length ∧ i ≤ l.length ∧ u.take i = (marked 1 l.length).take i ∧ T 0 = .sl r 0 l.length 1 ∧ T 1 = .sc (.int .i64 (1 + i)) ∧ T 5 = .sc (.int .i64 i)) (fun i => l.length - i) ?_ (i := 0) ?_
  · rintro i s ⟨T, u, rfl, b1, a1, b2, a3, a4, a5⟩
    by_cases h : i < l.length
    · have k1 : (i : Int) < l.length := by omega
      have k2 : (0 : Int) ≤ i := by omega
      have e1 : IntKind.i64.wrap ((i : Int) + 1) = i + 1 := w64 (by omega) (by omega)
      have e2 : IntKind.i64.wrap (1 + (i : Int) + 1) = 1 + (i : Int) + 1 := w64 (by omega) (by omega)
      simp -implicitDefEqProofs only [↓w_seq, ↓w_region, ↓ops_cons, ↓g_move, ↓g_len, Try.underlying22, Nat.reduceLT, ev_tab, a5, ne_eq, reduceCtorEq, not_false_eq_true, upd_ne, a3, upd_eq, len_sl, ↓g_binOp, Nat.reduceEqDiff, ↓ops_nil, ↓w_cond, ↓w_skip, ↓w_block, ↓g_indexAddr, a4, adr_sl, k2, k1, cells3, tyOk3, and_self, Int.toNat_natCast, Nat.mul_one, Nat.zero_add, if_true, ↓g_store, ev_const, of_int, b_add, e2, ↓g_assign, e1, onS_some, wr_def, at_set hrl, wr_ints, b1, h, List.set_set, ↓w_exit, ↓w_ret, ret_one, b_lss, decide_true, onB_true]
      refine ⟨i + 1, by omega, _, _, rfl, ?_, by omega, ?_, ?_, ?_, ?_⟩
      · rw [List.length_set, b1]
      · rw [List.take_add_one, List.take_add_one, List.take_set_of_le (by omega), b2, List.getElem?_set_self (by omega)]
        congr 1
        have := marked_get 1 l.length i h
        rw [List.getD_eq_getElem?_getD, List.getElem?_eq_getElem (by rw [marked_len]; exact h)] at this
        rw [List.getElem?_eq_getElem (by rw [marked_len]; exact h)]
        simpa using this.symm
      · simp -implicitDefEqProofs only [ne_eq, reduceCtorEq, not_false_eq_true, upd_ne, a3]
      · simp -implicitDefEqProofs only [ne_eq, Nat.reduceEqDiff, not_false_eq_true, upd_ne, upd_eq]
        congr 2
        try omega
      · simp -implicitDefEqProofs only [upd_eq] <;> rfl
    · have k1 : ¬ (i : Int) < l.length := by omega
      have e : i = l.length := by omega
      have hu : u = marked 1 l.length := by
        rw [e, ← b1, List.take_length, b1] at b2
        rw [b2, List.take_of_length_le (by rw [marked_len]; omega)]
      simp -implicitDefEqProofs only [↓w_seq, ↓w_region, hu, ↓ops_cons, ↓g_move, ↓g_len, Try.underlying22, Nat.reduceLT, ev_tab, a5, ne_eq, reduceCtorEq, not_false_eq_true, upd_ne, a3, upd_eq, len_sl, ↓g_binOp, Nat.reduceEqDiff, ↓ops_nil, ↓w_cond, ↓w_skip, ↓w_block, ↓g_indexAddr, a4, adr_sl, k1, cells3, tyOk3, and_self, and_true, and_false, Nat.mul_one, Nat.zero_add, if_false, ↓g_store, ev_const, of_int, b_add, ↓g_assign, onS_some, ↓w_exit, ↓w_ret, ret_one, if_true, b_lss, decide_false, onB_false]
      rw [e, Int.add_comm]
  · have hH : H = H.set r ⟨ints .i64 l, true, true⟩ := by
      have := (List.getElem?_eq_some_iff.1 hr).2
      rw [← this, List.set_getElem_self]
    refine ⟨_, l, congrArg (St.mk _) hH, rfl, by omega, by simp, ?_, ?_, ?_⟩
    · simp -implicitDefEqProofs only [ne_eq, reduceCtorEq, not_false_eq_true, upd_ne, par0]
    · simp -implicitDefEqProofs only [ne_eq, Nat.reduceEqDiff, not_false_eq_true, upd_ne, par1, Int.cast_ofNat_Int, Int.reduceAdd] <;> rfl
    · simp -implicitDefEqProofs only [upd_eq, Int.cast_ofNat_Int] <;> rfl
theorem markN (H : AHeap) : Sound Try.prog 22 [.sc (.slice none 0 0), .sc (.int .i64 1)] H (.sc (.int .i64 1)) H := by
  refine Sound.run 19 [.tmp 4] Try.func22 rfl rfl rfl rfl (by simp) ?_
  simp -implicitDefEqProofs only [↓w_seq, ↓w_region, ↓ops_cons, ↓g_assign, ↓ops_nil, ev_const, of_int, ↓w_block]
  refine w_loop (ι := Nat) (fun i s => ∃ T : Nat → AV, s = ⟨tab 19 T, H⟩ ∧ i = 0 ∧ T 0 = .sc (.slice none 0 0) ∧ T 1 = .sc (.int .i64 1) ∧ T 5 = .sc (.int .i64 0)) (fun i => i) ?_ (i := 0) ?_
  · rintro i s ⟨T, rfl, rfl, a3, a4, a5⟩
    simp -implicitDefEqProofs only [↓w_seq, ↓w_region, ↓ops_cons, ↓g_move, ↓g_len, Try.underlying22, Nat.reduceLT, ev_tab, a5, ne_eq, reduceCtorEq, not_false_eq_true, upd_ne, a3, upd_eq, len_nil, ↓g_binOp, Nat.reduceEqDiff, ↓ops_nil, ↓w_cond, ↓w_skip, ↓w_block, ↓g_indexAddr, a4, ↓g_store, ev_const, of_int, b_add, Int.reduceAdd, ↓g_assign, onS_some, ↓w_exit, ↓w_ret, ret_one, and_self, if_true, b_lss, Int.reduceLT, decide_false, onB_false]
  · refine ⟨_, rfl, rfl, ?_, ?_, ?_⟩ <;> simp -implicitDefEqProofs only [ne_eq, reduceCtorEq, not_false_eq_true, upd_ne, par0, Nat.reduceEqDiff, par1, upd_eq] <;> rfl
theorem markS' {H : AHeap} {r n : Nat} {l : List Int} (hr : H[r]? = some ⟨ints .i64 l, true, true⟩) (hn : l.length = n) (hl : n ≤ 1000000000000) : Sound Try.prog 22 [.sl r 0 n 1, .sc (.int .i64 1)] H (.sc (.int .i64 (n + 1))) (H.set r ⟨ints .i64 (marked 1 n), true, true⟩) := by
  subst hn
  exact markS hr hl
end Go.Proofs.Ytcjjcpdfnndenaa.Sim
namespace Go.Proofs.Ytcjjcpdfnndenaa.Sim
open Go
set_option maxRecDepth 100000
set_option maxHeartbeats 4000000
set_option linter.unusedSimpArgs false
set_option linter.unusedVariables false
def bN (z : ByteArray) (j : Nat) : Nat := (byteAt z j).toNat
theorem bN_i (z : ByteArray) (j : Nat) : byteAt z j = (bN z j : Int) ∧ bN z j < 256 := by
  have h : 0 ≤ byteAt z j ∧ byteAt z j < 256 := by
    unfold byteAt
    have := ((z.data[j]?).getD 0).toNat_lt
    omega
  unfold bN
  omega
def rdv (z : ByteArray) (a : Nat) : Nat → Nat → Nat → Option (Nat × Nat)
  | 0, _, _ => none
  | f + 1, i, n => if a + i < z.size then (if 127 < bN z (a + i) then rdv z a f (i + 1) (n + bN z (a + i) % 128 * 128 ^ i) else if (0 < i ∧ bN z (a + i) = 0) ∨ 1000000000 < n + bN z (a + i) % 128 * 128 ^ i then none else some (n + bN z (a + i) % 128 * 128 ^ i, a + i + 1)) else none
def rvV (r : Option (Nat × Nat)) : AV :=
  match r with
  | some (n, k) => .tup [.sc (.int .i64 n), .sc (.int .i64 k), .sc (.bool true)]
  | none => .tup [.sc (.int .i64 0), .sc (.int .i64 0), .sc (.bool false)]
theorem rvV_flat (r : Option (Nat × Nat)) : Flat (rvV r) := by
  unfold rvV
  split <;> exact .tup (flats_cons (.sc _) (flats_cons (.sc _) (flats_cons (.sc _) flats_nil)))
theorem pw7 (i : Nat) (h : i < 5) : (2 : Int) ^ (7 * i) = ((128 ^ i : Nat) : Int) ∧ 128 ^ i ≤ 268435456 ∧ 1 ≤ 128 ^ i := by
  match i, h with
  | 0, _ => exact ⟨rfl, by decide, by decide⟩
  | 1, _ => exact ⟨rfl, by decide, by decide⟩
  | 2, _ => exact ⟨rfl, by decide, by decide⟩
  | 3, _ => exact ⟨rfl, by decide, by decide⟩
  | 4, _ => exact ⟨rfl, by decide, by decide⟩
  | n + 5, h => exact absurd h (by omega)
theorem stp7 (n c i : Nat) (h : n < 128 ^ i) : n + c % 128 * 128 ^ i < 128 ^ (i + 1) := by
  have h1 : c % 128 ≤ 127 := by omega
  have h2 : c % 128 * 128 ^ i ≤ 127 * 128 ^ i := Nat.mul_le_mul_right _ h1
  rw [Nat.pow_succ]
  omega
theorem rvI (z : ByteArray) (a : Nat) (ha : a ≤ z.size) (hz : z.size ≤ 1000000000) : Fn Try.prog 54 [.sc (.string z), .sc (.int .i64 a)] (rvV (rdv z a 5 0 0)) := by
  refine Fn.run 57 [.tmp 4, .tmp 5, .tmp 6] Try.func54 rfl rfl rfl rfl (by simp) (flats_cons (.sc _) (flats_cons (.sc _) flats_nil)) (rvV_flat _) ?_
  generalize hR : rdv z a 5 0 0 = R
  simp -implicitDefEqProofs only [↓w_seq, ↓w_region, ↓ops_cons, ↓g_assign, ↓ops_nil, ev_const, of_int, of_bool, ↓g_move, ↓g_len, Try.underlying9, Nat.reduceLT, ev_tab, ne_eq, Nat.reduceEqDiff, not_false_eq_true, upd_ne, par1, reduceCtorEq, par0, upd_eq, len_str, onS_some]
  refine call1 (by simp -implicitDefEqProofs only [List.map_cons, Nat.reduceLT, ev_tab, ne_eq, Nat.reduceEqDiff, not_false_eq_true, upd_ne, upd_eq, ev_const, of_int, List.map_nil] <;> rfl) (inI _ 0 _) ?_
  rw [decide_eq_true (p := 0 ≤ (a : Int) ∧ (a : Int) ≤ (z.size : Int)) (by omega)]
  simp -implicitDefEqProofs only [↓ops_cons, ↓g_unOp, Nat.reduceLT, ev_tab, upd_eq, u_not, Bool.not_true, Option.map_some, ↓ops_nil, ↓w_cond, ↓w_seq, ↓w_region, ↓g_assign, ↓w_ret, ev_const, of_int, of_bool, ret_three, ne_eq, Nat.reduceEqDiff, not_false_eq_true, upd_ne, ↓w_skip, ↓w_block, onS_some, onB_false]
  refine w_loop (ι := Nat) (fun i s => ∃ (T : Nat → AV) (H : AHeap) (n : Nat), s = ⟨tab 57 T, H⟩ ∧ i ≤ 5 ∧ n < 128 ^ i ∧ rdv z a (5 - i) i n = R ∧ T 0 = .sc (.string z) ∧ T 1 = .sc (.int .i64 a) ∧ T 7 = .sc (.int .i64 n) ∧ T 8 = .sc (.int .i64 i)) (fun i => 5 - i) ?_ (i := 0) ?_
  · rintro i s ⟨T, H, n, rfl, a1, a2, a3, a4, a5, a6, a7⟩
    by_cases hi : i < 5
    · have k1 : (i : Int) < 5 := by omega
      have e1 : IntKind.i64.wrap ((a : Int) + i) = ((a + i : Nat) : Int) := by rw [w64 (by omega) (by omega)]; omega
      obtain ⟨f, hf⟩ : ∃ f, 5 - i = f + 1 := ⟨4 - i, by omega⟩
      have hf2 : 5 - (i + 1) = f := by omega
      rw [hf, rdv] at a3
      by_cases hin : a + i < z.size
      · have k2 : ((a + i : Nat) : Int) < z.size := by omega
        rw [if_pos hin] at a3
        obtain ⟨hb, hb2⟩ := bN_i z (a + i)
        obtain ⟨p1, p2, p3⟩ := pw7 i hi
        have hst := stp7 n (bN z (a + i)) i a2
        generalize hc : bN z (a + i) = c at *
        have k3 : (0 : Int) ≤ ((a + i : Nat) : Int) := by omega
        have e2 : IntKind.i64.wrap (c : Int) = c := w64 (by omega) (by omega)
        have e3 : ((c : Int)).tmod 128 = ((c % 128 : Nat) : Int) := by rw [Int.tmod_eq_emod_of_nonneg (by omega)]; omega
        have e4 : IntKind.i64.wrap (7 * (i : Int)) = ((7 * i : Nat) : Int) := by rw [w64 (by omega) (by omega)]; omega
        have k4 : ¬ ((7 * i : Nat) : Int) < 0 := by omega
        have e5 : min (7 * i) 64 = 7 * i := by omega
        have hm : c % 128 * 128 ^ i ≤ 127 * 268435456 := Nat.mul_le_mul (by omega) p2
        have hn : n < 268435456 := by omega
        have e6 : IntKind.i64.wrap (((c % 128 : Nat) : Int) * 2 ^ (7 * i)) = ((c % 128 * 128 ^ i : Nat) : Int) := by
          rw [p1, w64 (by omega) (by omega)]
          push_cast
          rfl
        have e7 : IntKind.i64.wrap ((n : Int) + ((c % 128 * 128 ^ i : Nat) : Int)) = ((n + c % 128 * 128 ^ i : Nat) : Int) := by rw [w64 (by omega) (by omega)]; omega
        have e8 : IntKind.i64.wrap ((i : Int) + 1) = ((i + 1 : Nat) : Int) := by rw [w64 (by omega) (by omega)]; omega
        generalize hn' : n + c % 128 * 128 ^ i = n' at *
        by_cases hbig : 127 < c
        · have k5 : (127 : Int) < c := by omega
          rw [if_pos hbig] at a3
          simp -implicitDefEqProofs only [↓w_seq, ↓w_region, ↓ops_cons, ↓g_move, ↓g_binOp, Nat.reduceLT, ev_tab, a7, upd_eq, ev_const, of_int, b_lss, k1, decide_true, onS_some, yielded_tab, dstAt_s, dstAt_0, ybv_some, boolOf_b, ↓g_guard_t, ne_eq, Nat.reduceEqDiff, not_false_eq_true, upd_ne, a5, b_add, e1, reduceCtorEq, a4, ↓g_len, Try.underlying9, len_str, ↓g_pick, of_bool, pick_b, if_true, ↓ops_nil, ↓w_cond, ↓w_skip, ↓w_block, ↓g_index, ↓g_convert, Try.underlying5, Try.underlying3, ↓g_assign, a6, b_mul, e4, ↓w_exit, e8, ↓w_ret, ret_three, if_false, b_gtr, idx_str, k3, Int.toNat_natCast, hin, and_self, hb, c_int, e2, b_rem, Int.reduceEq, e3, k5, onB_true, b_shl, k4, bits_i64, e5, e6, e7, k2]
          refine ⟨i + 1, by omega, _, _, n', rfl, by omega, hst, by rw [hf2]; exact a3, ?_, ?_, ?_, ?_⟩ <;> simp -implicitDefEqProofs only [ne_eq, reduceCtorEq, not_false_eq_true, upd_ne, a4, Nat.reduceEqDiff, a5, upd_eq] <;> rfl
        · have k5 : ¬ (127 : Int) < c := by omega
          rw [if_neg hbig] at a3
          have e9 : IntKind.i64.wrap (((a + i : Nat) : Int) + 1) = ((a + i + 1 : Nat) : Int) := by rw [w64 (by omega) (by omega)]; omega
          by_cases h0 : 0 < i ∧ c = 0
          · rw [if_pos (.inl h0)] at a3
            have k6 : (0 : Int) < i := by omega
            have k7 : (c : Int) = 0 := by omega
            subst a3
            simp -implicitDefEqProofs only [↓w_seq, ↓w_region, ↓ops_cons, ↓g_move, ↓g_binOp, Nat.reduceLT, ev_tab, a7, upd_eq, ev_const, of_int, b_lss, k1, decide_true, onS_some, yielded_tab, dstAt_s, dstAt_0, ybv_some, boolOf_b, ↓g_guard_t, ne_eq, Nat.reduceEqDiff, not_false_eq_true, upd_ne, a5, b_add, e1, reduceCtorEq, a4, ↓g_len, Try.underlying9, len_str, ↓g_pick, of_bool, pick_b, if_true, ↓ops_nil, ↓w_cond, ↓w_skip, ↓w_block, ↓g_index, ↓g_convert, Try.underlying5, Try.underlying3, ↓g_assign, a6, b_mul, e4, ↓w_exit, ↓w_ret, ret_three, if_false, b_gtr, k6, idx_str, k3, Int.toNat_natCast, hin, and_self, hb, k7, c_int, b_rem, Int.reduceEq, b_eql, onB_dec, b_shl, k4, bits_i64, e5, k2, onB_true]
            try rfl
          · by_cases h1 : 1000000000 < n'
            · rw [if_pos (.inr h1)] at a3
              subst a3
              have k8 : (1000000000 : Int) < n' := by omega
              by_cases h2 : 0 < i
              · have k6 : (0 : Int) < i := by omega
                have k7 : ¬ (c : Int) = 0 := by omega
                simp -implicitDefEqProofs only [↓w_seq, ↓w_region, ↓ops_cons, ↓g_move, ↓g_binOp, Nat.reduceLT, ev_tab, a7, upd_eq, ev_const, of_int, b_lss, k1, decide_true, onS_some, yielded_tab, dstAt_s, dstAt_0, ybv_some, boolOf_b, ↓g_guard_t, ne_eq, Nat.reduceEqDiff, not_false_eq_true, upd_ne, a5, b_add, e1, reduceCtorEq, a4, ↓g_len, Try.underlying9, len_str, ↓g_pick, of_bool, pick_b, if_true, ↓ops_nil, ↓w_cond, ↓w_skip, ↓w_block, ↓g_index, ↓g_convert, Try.underlying5, Try.underlying3, ↓g_assign, a6, b_mul, e4, ↓w_exit, ↓w_ret, ret_three, if_false, b_gtr, k6, idx_str, k3, Int.toNat_natCast, hin, and_self, hb, c_int, e2, b_rem, Int.reduceEq, e3, k5, decide_false, b_eql, k7, Bool.false_eq_true, onB_false, b_shl, k4, bits_i64, e5, e6, e7, k8, onB_true, k2]
                try rfl
              · have k6 : ¬ (0 : Int) < i := by omega
                simp -implicitDefEqProofs only [↓w_seq, ↓w_region, ↓ops_cons, ↓g_move, ↓g_binOp, Nat.reduceLT, ev_tab, a7, upd_eq, ev_const, of_int, b_lss, k1, decide_true, onS_some, yielded_tab, dstAt_s, dstAt_0, ybv_some, boolOf_b, ↓g_guard_t, ne_eq, Nat.reduceEqDiff, not_false_eq_true, upd_ne, a5, b_add, e1, reduceCtorEq, a4, ↓g_len, Try.underlying9, len_str, ↓g_pick, of_bool, pick_b, if_true, ↓ops_nil, ↓w_cond, ↓w_skip, ↓w_block, ↓g_index, ↓g_convert, Try.underlying5, Try.underlying3, ↓g_assign, a6, b_mul, e4, ↓w_exit, ↓w_ret, ret_three, if_false, b_gtr, k6, decide_false, Bool.not_true, ↓g_guard_f, Bool.false_eq_true, idx_str, k3, Int.toNat_natCast, hin, and_self, hb, c_int, e2, b_rem, Int.reduceEq, e3, k5, onB_false, b_shl, k4, bits_i64, e5, e6, e7, k8, onB_true, k2]
                try rfl
            · rw [if_neg (fun x => x.elim h0 h1)] at a3
              subst a3
              have k8 : ¬ (1000000000 : Int) < n' := by omega
              by_cases h2 : 0 < i
              · have k6 : (0 : Int) < i := by omega
                have k7 : ¬ (c : Int) = 0 := by omega
                simp -implicitDefEqProofs only [↓w_seq, ↓w_region, ↓ops_cons, ↓g_move, ↓g_binOp, Nat.reduceLT, ev_tab, a7, upd_eq, ev_const, of_int, b_lss, k1, decide_true, onS_some, yielded_tab, dstAt_s, dstAt_0, ybv_some, boolOf_b, ↓g_guard_t, ne_eq, Nat.reduceEqDiff, not_false_eq_true, upd_ne, a5, b_add, e1, reduceCtorEq, a4, ↓g_len, Try.underlying9, len_str, ↓g_pick, of_bool, pick_b, if_true, ↓ops_nil, ↓w_cond, ↓w_skip, ↓w_block, ↓g_index, ↓g_convert, Try.underlying5, Try.underlying3, ↓g_assign, a6, b_mul, e4, ↓w_exit, ↓w_ret, ret_three, if_false, b_gtr, k6, idx_str, k3, Int.toNat_natCast, hin, and_self, hb, c_int, e2, b_rem, Int.reduceEq, e3, k5, decide_false, b_eql, k7, Bool.false_eq_true, e9, onB_false, b_shl, k4, bits_i64, e5, e6, e7, k8, k2, onB_true]
                try rfl
              · have k6 : ¬ (0 : Int) < i := by omega
                simp -implicitDefEqProofs only [↓w_seq, ↓w_region, ↓ops_cons, ↓g_move, ↓g_binOp, Nat.reduceLT, ev_tab, a7, upd_eq, ev_const, of_int, b_lss, k1, decide_true, onS_some, yielded_tab, dstAt_s, dstAt_0, ybv_some, boolOf_b, ↓g_guard_t, ne_eq, Nat.reduceEqDiff, not_false_eq_true, upd_ne, a5, b_add, e1, reduceCtorEq, a4, ↓g_len, Try.underlying9, len_str, ↓g_pick, of_bool, pick_b, if_true, ↓ops_nil, ↓w_cond, ↓w_skip, ↓w_block, ↓g_index, ↓g_convert, Try.underlying5, Try.underlying3, ↓g_assign, a6, b_mul, e4, ↓w_exit, ↓w_ret, ret_three, if_false, b_gtr, k6, decide_false, Bool.not_true, ↓g_guard_f, Bool.false_eq_true, e9, idx_str, k3, Int.toNat_natCast, hin, and_self, hb, c_int, e2, b_rem, Int.reduceEq, e3, k5, onB_false, b_shl, k4, bits_i64, e5, e6, e7, k8, k2, onB_true]
                try rfl
      · have k2 : ¬ ((a + i : Nat) : Int) < z.size := by omega
        rw [if_neg hin] at a3
        subst a3
        simp -implicitDefEqProofs only [↓w_seq, ↓w_region, ↓ops_cons, ↓g_move, ↓g_binOp, Nat.reduceLT, ev_tab, a7, upd_eq, ev_const, of_int, b_lss, k1, decide_true, onS_some, yielded_tab, dstAt_s, dstAt_0, ybv_some, boolOf_b, ↓g_guard_t, ne_eq, Nat.reduceEqDiff, not_false_eq_true, upd_ne, a5, b_add, e1, reduceCtorEq, a4, ↓g_len, Try.underlying9, len_str, ↓g_pick, of_bool, pick_b, if_true, ↓ops_nil, ↓w_cond, ↓w_skip, ↓w_block, ↓g_index, ↓g_convert, Try.underlying5, Try.underlying3, ↓g_assign, a6, b_mul, ↓w_exit, ↓w_ret, ret_three, if_false, b_gtr, idx_str, onS_ite, c_int, b_rem, Int.reduceEq, onB_dec, b_shl, bits_i64, onS_not, k2, decide_false, onB_false]
        try rfl
    · have k1 : ¬ (i : Int) < 5 := by omega
      have hi5 : i = 5 := by omega
      subst hi5
      have hRn : R = none := a3.symm
      subst hRn
      simp -implicitDefEqProofs only [↓w_seq, ↓w_region, Nat.reduceSub, ↓ops_cons, ↓g_move, ↓g_binOp, Nat.reduceLT, ev_tab, a7, Int.cast_ofNat_Int, upd_eq, ev_const, of_int, b_lss, Int.reduceLT, decide_false, onS_some, yielded_tab, dstAt_s, dstAt_0, ybv_some, boolOf_b, Bool.not_true, ↓g_guard_f, ne_eq, Nat.reduceEqDiff, not_false_eq_true, upd_ne, ↓g_pick, of_bool, pick_b, Bool.false_eq_true, if_false, ↓ops_nil, ↓w_cond, ↓w_skip, ↓w_block, reduceCtorEq, a4, a5, b_add, ↓g_index, Try.underlying9, ↓g_convert, Try.underlying5, Try.underlying3, ↓g_assign, a6, b_mul, Int.reduceMul, ↓w_exit, Int.reduceAdd, ↓w_ret, ret_three, if_true, b_gtr, decide_true, ↓g_guard_t, idx_str, onS_ite, c_int, b_rem, Int.reduceEq, b_eql, onB_dec, b_shl, bits_i64, onS_not, onB_false]
      try rfl
  · refine ⟨_, _, 0, rfl, by omega, by decide, hR, ?_, ?_, ?_, ?_⟩ <;> simp -implicitDefEqProofs only [ne_eq, reduceCtorEq, not_false_eq_true, upd_ne, par0, Nat.reduceEqDiff, par1, upd_eq, Int.cast_ofNat_Int] <;> rfl
end Go.Proofs.Ytcjjcpdfnndenaa.Sim
namespace Go.Proofs.Ytcjjcpdfnndenaa.Sim
open Go
set_option maxRecDepth 100000
set_option maxHeartbeats 4000000
set_option linter.unusedSimpArgs false
set_option linter.unusedVariables false
def vl : List Nat → Nat
  | [] => 0
  | b :: l => b % 128 + 128 * vl l
theorem vl_app (c : Nat) : ∀ l : List Nat, vl (l ++ [c]) = vl l + c % 128 * 128 ^ l.length
  | [] => by simp [vl]
  | b :: l => by
    simp only [List.cons_append, vl, vl_app c l, List.length_cons, Nat.pow_succ, Nat.mul_add]
    rw [Nat.mul_comm (128 ^ l.length) 128, ← Nat.mul_assoc, ← Nat.mul_assoc, Nat.mul_comm 128 (c % 128)]
    omega
theorem vl_pos (c : Nat) (hc : 0 < c % 128) : ∀ l : List Nat, 1 ≤ vl (l ++ [c])
  | [] => by simp [vl]; omega
  | b :: l => by
    have := vl_pos c hc l
    simp only [List.cons_append, vl]
    omega
theorem vl_lt : ∀ l : List Nat, vl l < 128 ^ l.length
  | [] => by simp [vl]
  | b :: l => by
    have := vl_lt l
    simp only [vl, List.length_cons, Nat.pow_succ]
    omega
def ci (l : List Nat) : List Int := l.map fun b : Nat => (b : Int)
theorem varN_good (c : Nat) (hc : c < 128) : ∀ P : List Nat, (∀ b ∈ P, 128 ≤ b ∧ b < 256) → (c ≠ 0 ∨ P = []) → varN (vl (P ++ [c])) = ci (P ++ [c])
  | [], _, _ => by
    simp only [List.nil_append, vl]
    rw [varN_small (by omega)]
    simp [ci]
    omega
  | b :: P, h, h0 => by
    have hc0 : c ≠ 0 := by
      rcases h0 with h0 | h0
      · exact h0
      · cases h0
    have hp := vl_pos c (by omega) P
    have hb := h b (by simp)
    have ih := varN_good c hc P (fun x hx => h x (by simp [hx])) (.inl hc0)
    simp only [List.cons_append, vl]
    rw [varN_big (by omega)]
    have e1 : (b % 128 + 128 * vl (P ++ [c])) % 128 + 128 = b := by omega
    have e2 : (b % 128 + 128 * vl (P ++ [c])) / 128 = vl (P ++ [c]) := by omega
    rw [e1, e2, ih]
    rfl
theorem varN_bad (P : List Nat) (hP : P ≠ []) : varN (vl (P ++ [0])) ≠ ci (P ++ [0]) := by
  intro h
  have hl : (varN (vl (P ++ [0]))).length = P.length + 1 := by rw [h]; simp [ci]
  obtain ⟨k, hk⟩ : ∃ k, P.length = k + 1 := ⟨P.length - 1, by have := List.length_pos_iff.2 hP; omega⟩
  have hv : vl (P ++ [0]) < 128 ^ (k + 1) := by
    rw [vl_app, ← hk]
    have := vl_lt P
    omega
  have := varN_len k _ hv
  omega
theorem varN_range (n : Nat) : ∀ x ∈ varN n, 0 ≤ x ∧ x < 256 := by
  induction n using Nat.strongRecOn with
  | _ n ih =>
    intro x hx
    by_cases h : 127 < n
    · rw [varN_big h] at hx
      rcases List.mem_cons.1 hx with rfl | hx
      · omega
      · exact ih (n / 128) (by omega) x hx
    · rw [varN_small h] at hx
      simp at hx
      omega
theorem ext_ci (z : ByteArray) (a i : Nat) (P : List Nat) (c : Nat) (hP : ((nums z).drop a).take i = ci P) (hl : P.length = i) (hin : a + i < z.size) (hc : byteAt z (a + i) = (c : Int)) : ((nums z).drop a).take (i + 1) = ci (P ++ [c]) := by
  have h : i < ((nums z).drop a).length := by rw [List.length_drop, nums_len]; omega
  rw [List.take_add_one, hP, List.getElem?_eq_getElem h]
  have e : ((nums z).drop a)[i] = byteAt z (a + i) := by
    rw [byteAt_nums, List.getElem_drop, List.getD_eq_getElem?_getD, List.getElem?_eq_getElem (by rw [nums_len]; omega)]
    rfl
  rw [e, hc]
  simp [ci]
theorem ext_nums (z : ByteArray) (a k : Nat) : nums (z.extract a (a + k)) = ((nums z).drop a).take k := by
  rw [nums_extract, List.drop_take, Nat.add_sub_cancel_left]
theorem rvS (z : ByteArray) (a : Nat) (ha : a ≤ z.size) (hz : z.size ≤ 1000000000) : Fn Try.prog 53 [.sc (.string z), .sc (.int .i64 a)] (rvV (rdv z a 5 0 0)) := by
  refine Fn.run 58 [.tmp 4, .tmp 5, .tmp 6] Try.func53 rfl rfl rfl rfl (by simp) (flats_cons (.sc _) (flats_cons (.sc _) flats_nil)) (rvV_flat _) ?_
  generalize hR : rdv z a 5 0 0 = R
  simp -implicitDefEqProofs only [↓w_seq, ↓w_region, ↓ops_cons, ↓g_assign, ↓ops_nil, ev_const, of_int, of_bool, ↓g_move, ↓g_len, Try.underlying9, Nat.reduceLT, ev_tab, ne_eq, Nat.reduceEqDiff, not_false_eq_true, upd_ne, par1, reduceCtorEq, par0, upd_eq, len_str, onS_some]
  refine call1 (by simp -implicitDefEqProofs only [List.map_cons, Nat.reduceLT, ev_tab, ne_eq, Nat.reduceEqDiff, not_false_eq_true, upd_ne, upd_eq, ev_const, of_int, List.map_nil] <;> rfl) (inS _ 0 _) ?_
  rw [decide_eq_true (p := 0 ≤ (a : Int) ∧ (a : Int) ≤ (z.size : Int)) (by omega)]
  simp -implicitDefEqProofs only [↓ops_cons, ↓g_unOp, Nat.reduceLT, ev_tab, upd_eq, u_not, Bool.not_true, Option.map_some, ↓ops_nil, ↓w_cond, ↓w_seq, ↓w_region, ↓g_assign, ↓w_ret, ev_const, of_int, of_bool, ret_three, ne_eq, Nat.reduceEqDiff, not_false_eq_true, upd_ne, ↓w_skip, ↓g_move, ↓w_block, par1, onS_some, onB_false]
  refine w_loop (ι := Nat) (fun i s => ∃ (T : Nat → AV) (H : AHeap) (P : List Nat), s = ⟨tab 58 T, H⟩ ∧ i ≤ 5 ∧ a + i ≤ z.size ∧ P.length = i ∧ (∀ b ∈ P, 128 ≤ b ∧ b < 256) ∧ ((nums z).drop a).take i = ci P ∧ rdv z a (5 - i) i (vl P) = R ∧ T 0 = .sc (.string z) ∧ T 1 = .sc (.int .i64 a) ∧ T 7 = .sc (.int .i64 (vl P)) ∧ T 8 = .sc (.int .i64 ((128 ^ i : Nat) : Int)) ∧ T 9 = .sc (.int .i64 ((a + i : Nat) : Int))) (fun i => 5 - i) ?_ (i := 0) ?_
  · rintro i s ⟨T, H, P, rfl, a1, a1b, hPl, hPr, hPe, a3, a4, a5, a6, a7, a8⟩
    have e5 : IntKind.i64.wrap ((a : Int) + 5) = ((a + 5 : Nat) : Int) := by rw [w64 (by omega) (by omega)]; omega
    have e9 : IntKind.i64.wrap (((a + i : Nat) : Int) + 1) = ((a + (i + 1) : Nat) : Int) := by rw [w64 (by omega) (by omega)]; omega
    by_cases hi : i < 5
    · have k1 : ((a + i : Nat) : Int) < ((a + 5 : Nat) : Int) := by omega
      obtain ⟨f, hf⟩ : ∃ f, 5 - i = f + 1 := ⟨4 - i, by omega⟩
      have hf2 : 5 - (i + 1) = f := by omega
      rw [hf, rdv] at a3
      by_cases hin : a + i < z.size
      · have k2 : ((a + i : Nat) : Int) < z.size := by omega
        rw [if_pos hin] at a3
        obtain ⟨hb, hb2⟩ := bN_i z (a + i)
        obtain ⟨p1, p2, p3⟩ := pw7 i hi
        have hvl := vl_lt P
        rw [hPl] at hvl
        generalize hc : bN z (a + i) = c at *
        have hva : vl (P ++ [c]) = vl P + c % 128 * 128 ^ i := by rw [vl_app, hPl]
        have hex := ext_ci z a i P c hPe hPl hin hb
        have k3 : (0 : Int) ≤ ((a + i : Nat) : Int) := by omega
        have e2 : IntKind.i64.wrap (c : Int) = c := w64 (by omega) (by omega)
        have e3 : ((c : Int)).tmod 128 = ((c % 128 : Nat) : Int) := by rw [Int.tmod_eq_emod_of_nonneg (by omega)]; omega
        have hm : c % 128 * 128 ^ i ≤ 127 * 268435456 := Nat.mul_le_mul (by omega) p2
        have e6 : IntKind.i64.wrap (((c % 128 : Nat) : Int) * ((128 ^ i : Nat) : Int)) = ((c % 128 * 128 ^ i : Nat) : Int) := by
          rw [← Int.natCast_mul, w64 (by omega) (by omega)]
        have e7 : IntKind.i64.wrap ((vl P : Int) + ((c % 128 * 128 ^ i : Nat) : Int)) = ((vl (P ++ [c]) : Nat) : Int) := by rw [hva, w64 (by omega) (by omega)]; omega
        have e10 : IntKind.i64.wrap (((128 ^ i : Nat) : Int) * 128) = ((128 ^ (i + 1) : Nat) : Int) := by
          rw [Nat.pow_succ, w64 (by omega) (by omega)]
          omega
        rw [← hva] at a3
        by_cases hbig : 127 < c
        · have k5 : ¬ (c : Int) < 128 := by omega
          rw [if_pos hbig] at a3
          simp -implicitDefEqProofs only [↓w_seq, ↓w_region, ↓ops_cons, ↓g_move, ↓g_len, Try.underlying9, Nat.reduceLT, ev_tab, a8, ne_eq, reduceCtorEq, not_false_eq_true, upd_ne, a4, upd_eq, len_str, ↓g_binOp, Nat.reduceEqDiff, onS_some, b_lss, k2, decide_true, yielded_tab, dstAt_s, dstAt_0, ybv_some, boolOf_b, ↓g_guard_t, a5, ev_const, of_int, b_add, e5, ↓g_pick, of_bool, pick_b, if_true, ↓ops_nil, ↓w_cond, ↓w_skip, ↓w_block, ↓g_index, a6, idx_str, k3, Int.toNat_natCast, hin, and_self, hb, ↓g_convert, Try.underlying5, Try.underlying3, a7, ↓g_assign, b_mul, e10, e9, k5, decide_false, onB_false, c_int, e2, b_rem, Int.reduceEq, e3, if_false, e6, e7, ↓w_exit, ↓w_ret, ret_three, k1, onB_true]
          refine ⟨i + 1, by omega, _, _, P ++ [c], rfl, by omega, by omega, by simp [hPl], ?_, hex, by rw [hf2]; exact a3, ?_, ?_, ?_, ?_, ?_⟩
          · intro x hx
            rcases List.mem_append.1 hx with hx | hx
            · exact hPr x hx
            · simp at hx
              omega
          all_goals (simp -implicitDefEqProofs only [ne_eq, reduceCtorEq, not_false_eq_true, upd_ne, a4, Nat.reduceEqDiff, a5, upd_eq] <;> rfl)
        · have k5 : (c : Int) < 128 := by omega
          rw [if_neg hbig] at a3
          simp -implicitDefEqProofs only [↓w_seq, ↓w_region, ↓ops_cons, ↓g_move, ↓g_len, Try.underlying9, Nat.reduceLT, ev_tab, a8, ne_eq, reduceCtorEq, not_false_eq_true, upd_ne, a4, upd_eq, len_str, ↓g_binOp, Nat.reduceEqDiff, onS_some, b_lss, k2, decide_true, yielded_tab, dstAt_s, dstAt_0, ybv_some, boolOf_b, ↓g_guard_t, a5, ev_const, of_int, b_add, e5, ↓g_pick, of_bool, pick_b, if_true, ↓ops_nil, ↓w_cond, ↓w_skip, ↓w_block, ↓g_index, a6, idx_str, k3, Int.toNat_natCast, hin, and_self, hb, ↓g_convert, Try.underlying5, Try.underlying3, a7, ↓g_assign, b_mul, e10, e9, k5, onB_true, c_int, e2, b_rem, Int.reduceEq, e3, if_false, e6, e7, ↓w_exit, ↓w_ret, ret_three, k1]
          refine drawn [] follows (by kernel_rfl) (by kernel_rfl) ?_
          by_cases h1 : 1000000000 < vl (P ++ [c])
          · rw [if_pos (.inr h1)] at a3
            have k8 : (1000000000 : Int) < ((vl (P ++ [c]) : Nat) : Int) := by omega
            subst a3
            simp -implicitDefEqProofs only [↓dops_cons, ↓g_move, ↓g_binOp, Nat.reduceLT, ev_tab, ne_eq, Nat.reduceEqDiff, not_false_eq_true, upd_ne, upd_eq, ev_const, of_int, b_gtr, k8, decide_true, onS_some, yielded_tab, dstAt_s, dstAt_0, ybv_some, boolOf_b, Bool.not_false, ↓g_guard_f, ↓g_pick, of_bool, pick_b, if_true, ↓dops_0, ↓w_cond, ↓w_seq, ↓w_region, ↓ops_cons, ↓g_assign, ↓ops_nil, ↓w_ret, ret_three, ↓w_skip, onB_true]
            try rfl
          · have k8 : ¬ (1000000000 : Int) < ((vl (P ++ [c]) : Nat) : Int) := by omega
            simp -implicitDefEqProofs only [↓dops_cons, ↓g_move, ↓g_binOp, Nat.reduceLT, ev_tab, ne_eq, Nat.reduceEqDiff, not_false_eq_true, upd_ne, upd_eq, ev_const, of_int, b_gtr, k8, decide_false, onS_some, yielded_tab, dstAt_s, dstAt_0, ybv_some, boolOf_b, ↓g_guard_t]
            refine call1 (by simp -implicitDefEqProofs only [List.map_cons, Nat.reduceLT, ev_tab, upd_eq, List.map_nil] <;> rfl) (varS (vl (P ++ [c])) (by omega)) ?_
            have q1 : (0 : Int) ≤ (a : Int) := by omega
            have q2 : (0 : Int) ≤ ((a + (i + 1) : Nat) : Int) := by omega
            have q3 : a ≤ a + (i + 1) := by omega
            have q4 : a + (i + 1) ≤ z.size := by omega
            have hnx : nums (z.extract a (a + (i + 1))) = ci (P ++ [c]) := by rw [ext_nums]; exact hex
            by_cases h0 : 0 < i ∧ c = 0
            · rw [if_pos (.inl h0)] at a3
              subst a3
              have hne : ((varT (vl (P ++ [c]))).toList == (z.extract a (a + (i + 1))).toList) = false := by
                rw [beq_eq_false_iff_ne]
                intro he
                have he2 := toL_inj.1 he
                have he3 : nums (varT (vl (P ++ [c]))) = ci (P ++ [c]) := by rw [he2, hnx]
                rw [varT, nums_son (varN_range _), h0.2] at he3
                exact varN_bad P (by intro hn; rw [hn] at hPl; simp at hPl; omega) he3
              simp -implicitDefEqProofs only [↓dops_cons, yielded_tab, dstAt_s, dstAt_0, Nat.reduceLT, ybv_some, ne_eq, Nat.reduceEqDiff, not_false_eq_true, upd_ne, upd_eq, boolOf_b, ↓g_guard_t, ↓g_move, ev_tab, reduceCtorEq, a4, a5, a8, ↓g_binOp, ev_const, of_int, b_add, e9, ↓g_slice, Try.underlying9, Option.map_some, cut_str, bnd_int, q1, Int.toNat_natCast, if_true, ↓g_pick, of_bool, pick_b, Bool.false_eq_true, if_false, ↓dops_0, ↓w_cond, ↓w_seq, ↓w_region, ↓ops_cons, ↓g_assign, ↓ops_nil, ↓w_ret, ret_three, ↓w_skip, onS_some, q2, cutS_some, q3, q4, and_self, t_neq, hne, Bool.not_false, onB_true]
              try rfl
            · rw [if_neg (fun x => x.elim h0 h1)] at a3
              subst a3
              have hg : c ≠ 0 ∨ P = [] := by
                by_cases hi0 : 0 < i
                · exact .inl fun hc0 => h0 ⟨hi0, hc0⟩
                · exact .inr (List.eq_nil_of_length_eq_zero (by omega))
              have heq : varT (vl (P ++ [c])) = z.extract a (a + (i + 1)) := by
                apply nums_inj
                rw [varT, nums_son (varN_range _), hnx]
                exact varN_good c (by omega) P hPr hg
              rw [heq]
              simp -implicitDefEqProofs only [↓dops_cons, yielded_tab, dstAt_s, dstAt_0, Nat.reduceLT, ybv_some, ne_eq, Nat.reduceEqDiff, not_false_eq_true, upd_ne, upd_eq, boolOf_b, ↓g_guard_t, ↓g_move, ev_tab, reduceCtorEq, a4, a5, a8, ↓g_binOp, ev_const, of_int, b_add, e9, ↓g_slice, Try.underlying9, Option.map_some, cut_str, bnd_int, q1, Int.toNat_natCast, if_true, ↓g_pick, of_bool, pick_b, Bool.false_eq_true, if_false, ↓dops_0, ↓w_cond, ↓w_seq, ↓w_region, ↓ops_cons, ↓g_assign, ↓ops_nil, ↓w_ret, ret_three, ↓w_skip, onS_some, q2, cutS_some, q3, q4, and_self, t_neq, beq_self_eq_true, Bool.not_true, onB_false]
              try rfl
      · have k2 : ¬ ((a + i : Nat) : Int) < z.size := by omega
        rw [if_neg hin] at a3
        subst a3
        simp -implicitDefEqProofs only [↓w_seq, ↓w_region, ↓ops_cons, ↓g_move, ↓g_len, Try.underlying9, Nat.reduceLT, ev_tab, a8, ne_eq, reduceCtorEq, not_false_eq_true, upd_ne, a4, upd_eq, len_str, ↓g_binOp, Nat.reduceEqDiff, onS_some, b_lss, k2, decide_false, yielded_tab, dstAt_s, dstAt_0, ybv_some, boolOf_b, Bool.not_true, ↓g_guard_f, ↓g_pick, ev_const, of_bool, pick_b, Bool.false_eq_true, if_false, ↓ops_nil, ↓w_cond, ↓w_skip, ↓w_block, ↓g_index, a6, idx_str, ↓g_convert, Try.underlying5, Try.underlying3, of_int, a7, ↓g_assign, b_mul, b_add, onS_ite, onB_dec, c_int, b_rem, Int.reduceEq, ↓w_exit, ↓w_ret, ret_three, if_true, onB_false]
        try rfl
    · have k1 : ¬ ((a + i : Nat) : Int) < ((a + 5 : Nat) : Int) := by omega
      have hi5 : i = 5 := by omega
      subst hi5
      have hRn : R = none := a3.symm
      subst hRn
      by_cases hin : a + 5 < z.size
      · have k2 : ((a + 5 : Nat) : Int) < z.size := by omega
        simp -implicitDefEqProofs only [↓w_seq, ↓w_region, Nat.reduceSub, ↓ops_cons, ↓g_move, ↓g_len, Try.underlying9, Nat.reduceLT, ev_tab, a8, ne_eq, reduceCtorEq, not_false_eq_true, upd_ne, a4, upd_eq, len_str, ↓g_binOp, Nat.reduceEqDiff, onS_some, b_lss, k2, decide_true, yielded_tab, dstAt_s, dstAt_0, ybv_some, boolOf_b, ↓g_guard_t, a5, ev_const, of_int, b_add, e5, ↓g_pick, of_bool, pick_b, if_true, ↓ops_nil, ↓w_cond, ↓w_skip, ↓w_block, ↓g_index, a6, idx_str, ↓g_convert, Try.underlying5, Try.underlying3, a7, Nat.reducePow, Int.cast_ofNat_Int, ↓g_assign, b_mul, Int.reduceMul, onS_ite, onB_dec, c_int, b_rem, Int.reduceEq, if_false, ↓w_exit, ↓w_ret, ret_three, k1, decide_false, onB_false]
        try rfl
      · have k2 : ¬ ((a + 5 : Nat) : Int) < z.size := by omega
        simp -implicitDefEqProofs only [↓w_seq, ↓w_region, Nat.reduceSub, ↓ops_cons, ↓g_move, ↓g_len, Try.underlying9, Nat.reduceLT, ev_tab, a8, ne_eq, reduceCtorEq, not_false_eq_true, upd_ne, a4, upd_eq, len_str, ↓g_binOp, Nat.reduceEqDiff, onS_some, b_lss, k2, decide_false, yielded_tab, dstAt_s, dstAt_0, ybv_some, boolOf_b, Bool.not_true, ↓g_guard_f, ↓g_pick, ev_const, of_bool, pick_b, Bool.false_eq_true, if_false, ↓ops_nil, ↓w_cond, ↓w_skip, ↓w_block, ↓g_index, a6, idx_str, ↓g_convert, Try.underlying5, Try.underlying3, of_int, a7, Nat.reducePow, Int.cast_ofNat_Int, ↓g_assign, b_mul, Int.reduceMul, b_add, onS_ite, onB_dec, c_int, b_rem, Int.reduceEq, ↓w_exit, ↓w_ret, ret_three, if_true, onB_false]
        try rfl
  · refine ⟨_, _, [], rfl, by omega, by omega, rfl, by simp, rfl, hR, ?_, ?_, ?_, ?_, ?_⟩ <;> simp -implicitDefEqProofs only [ne_eq, reduceCtorEq, not_false_eq_true, upd_ne, par0, Nat.reduceEqDiff, par1, upd_eq, Nat.reducePow, Int.cast_ofNat_Int] <;> rfl
end Go.Proofs.Ytcjjcpdfnndenaa.Sim
namespace Go.Proofs.Ytcjjcpdfnndenaa.Sim
open Go
set_option maxRecDepth 100000
set_option maxHeartbeats 4000000
set_option linter.unusedSimpArgs false
set_option linter.unusedVariables false
theorem rdv_le (z : ByteArray) (a : Nat) : ∀ f i n m k, rdv z a f i n = some (m, k) → k ≤ z.size ∧ m ≤ 1000000000
  | 0, i, n, m, k, h => by cases h
  | f + 1, i, n, m, k, h => by
    rw [rdv] at h
    split at h
    · rename_i hin
      split at h
      · exact rdv_le z a f _ _ _ _ h
      · split at h
        · cases h
        · rename_i hno
          simp only [Option.some.injEq, Prod.mk.injEq] at h
          obtain ⟨rfl, rfl⟩ := h
          have : ¬ 1000000000 < n + bN z (a + i) % 128 * 128 ^ i := fun q => hno (.inr q)
          omega
    · cases h
/-- The numbers that follow. -/
def rkL (z : ByteArray) : Nat → Nat → List Int → Option (List Int)
  | 0, _, acc => some acc
  | k + 1, at_, acc =>
    match rdv z at_ 5 0 0 with
    | some (n, nx) => rkL z k nx (acc ++ [(n : Int)])
    | none => none
theorem rvV_some {r : Option (Nat × Nat)} {n k : Nat} (h : r = some (n, k)) : rvV r = .tup [.sc (.int .i64 n), .sc (.int .i64 k), .sc (.bool true)] := by rw [h]; rfl
theorem rvV_none {r : Option (Nat × Nat)} (h : r = none) : rvV r = .tup [.sc (.int .i64 0), .sc (.int .i64 0), .sc (.bool false)] := by rw [h]; rfl
open Classical in
noncomputable def fin (z : ByteArray) (r : Option (List Int)) : Option (List Int) :=
  match r with
  | some l => if (UpL l ∧ l.length ≤ 100) ∧ ackT l = z then some l else none
  | none => none
def QI (r : Option (List Int)) (v : AV) (Z : AHeap) : Prop :=
  match r with
  | some l => ∃ x, v = .tup [.sl x 0 l.length 1, .sc (.bool true)] ∧ Z[x]? = some ⟨ints .i64 l, true, true⟩
  | none => v = .tup [.sc (.slice none 0 0), .sc (.bool false)]
def QS (r : Option (List Int)) (v : AV) (Z : AHeap) : Prop :=
  match r with
  | some l => ∃ x, v = .tup [.sl x 0 l.length 1, .sc (.bool true)] ∧ Z[x]? = some ⟨ints .i64 l, true, true⟩
  | none => ∃ x, v = .tup [.sl x 0 0 1, .sc (.bool false)] ∧ Z[x]? = some ⟨ints .i64 [], true, true⟩
noncomputable def rAck (z : ByteArray) : Option (List Int) :=
  match rdv z 0 5 0 0 with
  | some (c, k) => if 100 < c then none else fin z (rkL z c k [])
  | none => none
theorem neT {x z : ByteArray} (h : x ≠ z) : (x.toList == z.toList) = false := by
  rw [beq_eq_false_iff_ne]
  exact fun he => h (toL_inj.1 he)
theorem rAckI (z : ByteArray) (hz : z.size ≤ 1000000000) : ∃ v Z, Sound Try.prog 27 [.sc (.string z)] [] v Z ∧ QI (rAck z) v Z := by
  refine Sound.runP (args := [.sc (.string z)]) 56 [.tmp 2, .tmp 3] Try.func27 rfl rfl rfl rfl (by simp) (QI (rAck z)) ?_
  simp -implicitDefEqProofs only [↓w_seq, ↓w_region, ↓ops_cons, ↓g_assign, ↓ops_nil, ev_const, of_bool, ↓g_move, Nat.reduceLT, ev_tab, ne_eq, reduceCtorEq, not_false_eq_true, upd_ne, par0]
  refine call1 (by simp -implicitDefEqProofs only [List.map_cons, Nat.reduceLT, ev_tab, upd_eq, ev_const, of_int, List.map_nil, Int.cast_ofNat_Int] <;> rfl) (rvI z 0 (by omega) hz) ?_
  unfold rAck
  cases hr : rdv z 0 5 0 0 with
  | none =>
    rw [rvV_none rfl]
    simp -implicitDefEqProofs only [↓ops_cons, ↓g_move, ↓g_extract, Nat.reduceLT, ev_tab, upd_eq, ext_0, ne_eq, Nat.reduceEqDiff, not_false_eq_true, upd_ne, ext_1, ext_2, ↓g_assign, ↓ops_nil, ↓w_seq, ↓w_region, ↓g_unOp, onS_some, u_not, Bool.not_false, Option.map_some, yielded_tab, dstAt_s, dstAt_0, ybv_some, boolOf_b, ↓g_guard_f, ↓g_pick, ev_const, of_bool, pick_b, if_true, ↓w_cond, ↓w_ret, retP_2, res_tmp, ↓w_skip, ↓g_buildSlice, Try.underlying22, List.map_nil, bs3_0, ↓w_block, of_int, alK_some, ints_one, List.length_nil, List.nil_append, true_and, onB_true]
    rfl
  | some p =>
    obtain ⟨c, k⟩ := p
    rw [rvV_some rfl]
    obtain ⟨hk, hc⟩ := rdv_le z 0 _ _ _ _ _ hr
    simp only
    by_cases h100 : 100 < c
    · have k1 : (100 : Int) < c := by omega
      rw [if_pos h100]
      simp -implicitDefEqProofs only [↓ops_cons, ↓g_move, ↓g_extract, Nat.reduceLT, ev_tab, upd_eq, ext_0, ne_eq, Nat.reduceEqDiff, not_false_eq_true, upd_ne, ext_1, ext_2, ↓g_assign, ↓ops_nil, ↓w_seq, ↓w_region, ↓g_unOp, onS_some, u_not, Bool.not_true, Option.map_some, yielded_tab, dstAt_s, dstAt_0, ybv_some, boolOf_b, ↓g_guard_t, ↓g_binOp, ev_const, of_int, ↓g_pick, of_bool, pick_b, Bool.false_eq_true, if_false, ↓w_cond, ↓w_ret, retP_2, res_tmp, ↓w_skip, ↓g_buildSlice, Try.underlying22, List.map_nil, bs3_0, ↓w_block, alK_some, ints_one, List.length_nil, List.nil_append, true_and, b_gtr, k1, decide_true, onB_true]
      rfl
    · have k1 : ¬ (100 : Int) < c := by omega
      rw [if_neg h100]
      simp -implicitDefEqProofs only [↓ops_cons, ↓g_move, ↓g_extract, Nat.reduceLT, ev_tab, upd_eq, ext_0, ne_eq, Nat.reduceEqDiff, not_false_eq_true, upd_ne, ext_1, ext_2, ↓g_assign, ↓ops_nil, ↓w_seq, ↓w_region, ↓g_unOp, onS_some, u_not, Bool.not_true, Option.map_some, yielded_tab, dstAt_s, dstAt_0, ybv_some, boolOf_b, ↓g_guard_t, ↓g_binOp, ev_const, of_int, ↓g_pick, of_bool, pick_b, Bool.false_eq_true, if_false, ↓w_cond, ↓w_ret, retP_2, res_tmp, ↓w_skip, ↓g_buildSlice, Try.underlying22, List.map_nil, bs3_0, ↓w_block, alK_some, ints_one, List.length_nil, List.nil_append, true_and, b_gtr, k1, decide_false, onB_false]
      generalize hR : rkL z c k [] = R
      refine w_loop (ι := Nat) (fun i s => ∃ (T : Nat → AV) (G : AHeap) (acc : List Int) (p : Nat), s = ⟨tab 56 T, G ++ [⟨ints .i64 acc, true, true⟩]⟩ ∧ i ≤ c ∧ acc.length = i ∧ p ≤ z.size ∧ rkL z (c - i) p acc = R ∧ T 0 = .sc (.string z) ∧ T 5 = .sc (.int .i64 p) ∧ T 7 = .sl G.length 0 acc.length 1 ∧ T 25 = .sc (.int .i64 c) ∧ T 26 = .sc (.int .i64 i)) (fun i => c - i) ?_ (i := 0) ?_
      · rintro i s ⟨T, G, acc, p, rfl, a1, a2, a3, a4, a5, a6, a7, a8, a9⟩
        have e1 : IntKind.i64.wrap ((i : Int) + 1) = ((i + 1 : Nat) : Int) := by rw [w64 (by omega) (by omega)]; omega
        have htk : acc.take acc.length = acc := List.take_length
        by_cases hi : i < c
        · have k2 : (i : Int) < c := by omega
          obtain ⟨f, hf⟩ : ∃ f, c - i = f + 1 := ⟨c - i - 1, by omega⟩
          have hf2 : c - (i + 1) = f := by omega
          rw [hf, rkL] at a4
          simp -implicitDefEqProofs only [↓w_seq, ↓w_region, ↓ops_cons, ↓g_binOp, Nat.reduceLT, ev_tab, a9, a8, b_lss, k2, decide_true, ↓ops_nil, ↓w_cond, upd_eq, ↓w_skip, ↓w_block, ↓g_move, ne_eq, reduceCtorEq, not_false_eq_true, upd_ne, a5, Nat.reduceEqDiff, a6, ↓w_exit, a7, if_true, onS_some, onB_true]
          refine call1 (by simp -implicitDefEqProofs only [List.map_cons, Nat.reduceLT, ev_tab, ne_eq, Nat.reduceEqDiff, not_false_eq_true, upd_ne, upd_eq, List.map_nil] <;> rfl) (rvI z p a3 hz) ?_
          cases hr2 : rdv z p 5 0 0 with
          | none =>
            rw [hr2] at a4
            subst a4
            rw [rvV_none rfl]
            simp -implicitDefEqProofs only [↓ops_cons, ↓g_move, ↓g_extract, Nat.reduceLT, ev_tab, upd_eq, ext_0, ne_eq, Nat.reduceEqDiff, not_false_eq_true, upd_ne, ext_1, ext_2, ↓g_assign, ↓ops_nil, ↓w_seq, ↓w_region, ↓g_unOp, ↓w_cond, ↓w_ret, ev_const, of_bool, retP_2, res_tmp, onS_some, ↓w_skip, ↓g_buildSlice, Try.underlying22, List.map_cons, List.map_nil, ↓g_append, ↓g_binOp, of_int, u_not, Bool.not_false, Option.map_some, onB_true]
            rfl
          | some q =>
            obtain ⟨m, nx⟩ := q
            rw [hr2] at a4
            obtain ⟨hnx, hmm⟩ := rdv_le z p _ _ _ _ _ hr2
            rw [rvV_some rfl]
            simp -implicitDefEqProofs only [↓ops_cons, ↓g_move, ↓g_extract, Nat.reduceLT, ev_tab, upd_eq, ext_0, ne_eq, Nat.reduceEqDiff, not_false_eq_true, upd_ne, ext_1, ext_2, ↓g_assign, ↓ops_nil, ↓w_seq, ↓w_region, ↓g_unOp, ↓w_cond, ↓w_ret, ev_const, of_bool, retP_2, res_tmp, onS_some, ↓w_skip, ↓g_buildSlice, Try.underlying22, a7, List.map_cons, List.map_nil, ↓g_append, apS22, ↓g_binOp, a9, of_int, b_add, e1, u_not, Bool.not_true, Option.map_some, onB_false, bs3_1, alK_some, ints_one, at_a, List.length_append, List.length_cons, List.length_nil, Nat.zero_add, src_sl, at_b, at_ints, Nat.le_refl, List.drop_zero, List.take_succ_cons, List.take_zero, if_true, ap_ints, Nat.reduceLeDiff, true_and, htk, onS_ite]
            refine ⟨by omega, i + 1, by omega, _, _, acc ++ [(m : Int)], nx, rfl, by omega, by simp; omega, hnx, by rw [hf2]; exact a4, ?_, ?_, ?_, ?_, ?_⟩
            · simp -implicitDefEqProofs only [ne_eq, reduceCtorEq, not_false_eq_true, upd_ne, a5]
            · simp -implicitDefEqProofs only [ne_eq, Nat.reduceEqDiff, not_false_eq_true, upd_ne, upd_eq]
            · simp -implicitDefEqProofs only [ne_eq, Nat.reduceEqDiff, not_false_eq_true, upd_ne, upd_eq, kill_len, List.length_append, List.length_cons, List.length_nil, Nat.zero_add]
              try simp only [kill_len, List.length_append, List.length_cons, List.length_nil]
              try rfl
            · simp -implicitDefEqProofs only [ne_eq, Nat.reduceEqDiff, not_false_eq_true, upd_ne, a8]
            · simp -implicitDefEqProofs only [upd_eq] <;> rfl
        · have k2 : ¬ (i : Int) < c := by omega
          have hci : c - i = 0 := by omega
          rw [hci, rkL] at a4
          subst a4
          have hL : IsL (G ++ [⟨ints .i64 acc, true, true⟩]) (.sl G.length 0 acc.length 1) .i64 acc := .mk (at_end _ _)
          simp -implicitDefEqProofs only [↓w_seq, ↓w_region, ↓ops_cons, ↓g_binOp, Nat.reduceLT, ev_tab, a9, a8, b_lss, k2, decide_false, ↓ops_nil, ↓w_cond, upd_eq, ↓w_skip, ↓w_block, ↓g_move, ne_eq, reduceCtorEq, not_false_eq_true, upd_ne, a5, Nat.reduceEqDiff, a6, ↓w_exit, a7, if_true, onS_some, onB_false]
          by_cases hU : UpL acc ∧ acc.length ≤ 100
          · refine call1S (by simp -implicitDefEqProofs only [List.map_cons, Nat.reduceLT, ev_tab, upd_eq, List.map_nil] <;> rfl) (ackI hU.1 hU.2 hL) ?_
            by_cases hq : ackT acc = z
            · rw [fin, if_pos ⟨hU, hq⟩, hq]
              simp -implicitDefEqProofs only [↓ops_cons, ↓g_move, ↓g_extract, Nat.reduceLT, ev_tab, upd_eq, ext_0, ne_eq, Nat.reduceEqDiff, not_false_eq_true, upd_ne, ext_1, ↓g_assign, ↓ops_nil, ↓w_seq, ↓w_region, ↓g_unOp, onS_some, u_not, Bool.not_true, Option.map_some, yielded_tab, dstAt_s, dstAt_0, ybv_some, boolOf_b, ↓g_guard_t, reduceCtorEq, a5, ↓g_binOp, ↓g_pick, ev_const, of_bool, pick_b, Bool.false_eq_true, if_false, ↓w_cond, ↓w_ret, retP_2, res_tmp, ↓w_skip, a7, t_neq, beq_self_eq_true, onB_false]
              exact ⟨_, rfl, at_end _ _⟩
            · rw [fin, if_neg (fun x => hq x.2)]
              simp -implicitDefEqProofs only [↓ops_cons, ↓g_move, ↓g_extract, Nat.reduceLT, ev_tab, upd_eq, ext_0, ne_eq, Nat.reduceEqDiff, not_false_eq_true, upd_ne, ext_1, ↓g_assign, ↓ops_nil, ↓w_seq, ↓w_region, ↓g_unOp, onS_some, u_not, Bool.not_true, Option.map_some, yielded_tab, dstAt_s, dstAt_0, ybv_some, boolOf_b, ↓g_guard_t, reduceCtorEq, a5, ↓g_binOp, ↓g_pick, ev_const, of_bool, pick_b, Bool.false_eq_true, if_false, ↓w_cond, ↓w_ret, retP_2, res_tmp, ↓w_skip, a7, t_neq, neT hq, Bool.not_false, onB_true]
              rfl
          · refine call1S (by simp -implicitDefEqProofs only [List.map_cons, Nat.reduceLT, ev_tab, upd_eq, List.map_nil] <;> rfl) (ackNoI hU (by omega) hL) ?_
            rw [fin, if_neg (fun x => hU x.1)]
            simp -implicitDefEqProofs only [↓ops_cons, ↓g_move, ↓g_extract, Nat.reduceLT, ev_tab, upd_eq, ext_0, ne_eq, Nat.reduceEqDiff, not_false_eq_true, upd_ne, ext_1, ↓g_assign, ↓ops_nil, ↓w_seq, ↓w_region, ↓g_unOp, onS_some, u_not, Bool.not_false, Option.map_some, yielded_tab, dstAt_s, dstAt_0, ybv_some, boolOf_b, ↓g_guard_f, ↓g_pick, ev_const, of_bool, pick_b, if_true, ↓w_cond, ↓w_ret, retP_2, res_tmp, ↓w_skip, a7, onB_true]
            rfl
      · refine ⟨_, [], [], k, rfl, by omega, rfl, hk, hR, ?_, ?_, ?_, ?_, ?_⟩ <;> simp -implicitDefEqProofs only [ne_eq, reduceCtorEq, not_false_eq_true, upd_ne, par0, Nat.reduceEqDiff, upd_eq, List.length_nil, Int.cast_ofNat_Int] <;> rfl
theorem rAckS (z : ByteArray) (hz : z.size ≤ 1000000000) : ∃ v Z, Sound Try.prog 26 [.sc (.string z)] [] v Z ∧ QS (rAck z) v Z := by
  refine Sound.runP (args := [.sc (.string z)]) 62 [.tmp 2, .tmp 3] Try.func26 rfl rfl rfl rfl (by simp) (QS (rAck z)) ?_
  simp -implicitDefEqProofs only [↓w_seq, ↓w_region, ↓ops_cons, ↓g_assign, ↓ops_nil, ev_const, of_bool, ↓g_move, Nat.reduceLT, ev_tab, ne_eq, reduceCtorEq, not_false_eq_true, upd_ne, par0]
  refine call1 (by simp -implicitDefEqProofs only [List.map_cons, Nat.reduceLT, ev_tab, upd_eq, ev_const, of_int, List.map_nil, Int.cast_ofNat_Int] <;> rfl) (rvS z 0 (by omega) hz) ?_
  unfold rAck
  cases hr : rdv z 0 5 0 0 with
  | none =>
    rw [rvV_none rfl]
    simp -implicitDefEqProofs only [↓ops_cons, ↓g_move, ↓g_extract, Nat.reduceLT, ev_tab, upd_eq, ext_0, ne_eq, Nat.reduceEqDiff, not_false_eq_true, upd_ne, ext_1, ext_2, ↓g_assign, ↓ops_nil, ↓w_seq, ↓w_region, ↓g_buildSlice, Try.underlying22, List.map_nil, bs3_0, ↓g_unOp, alK_some, ints_one, List.length_nil, List.nil_append, true_and, onS_some, u_not, Bool.not_false, Option.map_some, yielded_tab, dstAt_s, dstAt_0, ybv_some, boolOf_b, ↓g_guard_f, ↓g_pick, ev_const, of_bool, pick_b, if_true, ↓w_cond, ↓w_ret, retP_2, res_tmp, ↓w_skip, ↓w_block, of_int, onB_true]
    exact ⟨_, rfl, rfl⟩
  | some p =>
    obtain ⟨c, k⟩ := p
    rw [rvV_some rfl]
    obtain ⟨hk, hc⟩ := rdv_le z 0 _ _ _ _ _ hr
    simp only
    by_cases h100 : 100 < c
    · have k1 : (100 : Int) < c := by omega
      rw [if_pos h100]
      simp -implicitDefEqProofs only [↓ops_cons, ↓g_move, ↓g_extract, Nat.reduceLT, ev_tab, upd_eq, ext_0, ne_eq, Nat.reduceEqDiff, not_false_eq_true, upd_ne, ext_1, ext_2, ↓g_assign, ↓ops_nil, ↓w_seq, ↓w_region, ↓g_buildSlice, Try.underlying22, List.map_nil, bs3_0, ↓g_unOp, alK_some, ints_one, List.length_nil, List.nil_append, true_and, onS_some, u_not, Bool.not_true, Option.map_some, yielded_tab, dstAt_s, dstAt_0, ybv_some, boolOf_b, ↓g_guard_t, ↓g_binOp, ev_const, of_int, ↓g_pick, of_bool, pick_b, Bool.false_eq_true, if_false, ↓w_cond, ↓w_ret, retP_2, res_tmp, ↓w_skip, ↓w_block, b_gtr, k1, decide_true, onB_true]
      exact ⟨_, rfl, rfl⟩
    · have k1 : ¬ (100 : Int) < c := by omega
      rw [if_neg h100]
      simp -implicitDefEqProofs only [↓ops_cons, ↓g_move, ↓g_extract, Nat.reduceLT, ev_tab, upd_eq, ext_0, ne_eq, Nat.reduceEqDiff, not_false_eq_true, upd_ne, ext_1, ext_2, ↓g_assign, ↓ops_nil, ↓w_seq, ↓w_region, ↓g_buildSlice, Try.underlying22, List.map_nil, bs3_0, ↓g_unOp, alK_some, ints_one, List.length_nil, List.nil_append, true_and, onS_some, u_not, Bool.not_true, Option.map_some, yielded_tab, dstAt_s, dstAt_0, ybv_some, boolOf_b, ↓g_guard_t, ↓g_binOp, ev_const, of_int, ↓g_pick, of_bool, pick_b, Bool.false_eq_true, if_false, ↓w_cond, ↓w_ret, retP_2, res_tmp, ↓w_skip, ↓w_block, b_gtr, k1, decide_false, onB_false]
      generalize hR : rkL z c k [] = R
      refine w_loop (ι := Nat) (fun i s => ∃ (T : Nat → AV) (G : AHeap) (acc : List Int) (p : Nat), s = ⟨tab 62 T, G ++ [⟨ints .i64 acc, true, true⟩]⟩ ∧ i ≤ c ∧ acc.length = i ∧ p ≤ z.size ∧ rkL z (c - i) p acc = R ∧ T 0 = .sc (.string z) ∧ T 4 = .sc (.int .i64 c) ∧ T 5 = .sc (.int .i64 p) ∧ T 7 = .sl G.length 0 acc.length 1 ∧ T 8 = .sc (.int .i64 i)) (fun i => c - i) ?_ (i := 0) ?_
      · rintro i s ⟨T, G, acc, p, rfl, a1, a2, a3, a4, a5, a8, a6, a7, a9⟩
        have e1 : IntKind.i64.wrap ((i : Int) + 1) = ((i + 1 : Nat) : Int) := by rw [w64 (by omega) (by omega)]; omega
        have htk : acc.take acc.length = acc := List.take_length
        by_cases hi : i < c
        · have k2 : (i : Int) < c := by omega
          obtain ⟨f, hf⟩ : ∃ f, c - i = f + 1 := ⟨c - i - 1, by omega⟩
          have hf2 : c - (i + 1) = f := by omega
          rw [hf, rkL] at a4
          simp -implicitDefEqProofs only [↓w_seq, ↓w_region, ↓ops_cons, ↓g_move, ↓g_binOp, Nat.reduceLT, ev_tab, a9, ne_eq, Nat.reduceEqDiff, not_false_eq_true, upd_ne, a8, upd_eq, b_lss, k2, decide_true, ↓ops_nil, ↓w_cond, ↓w_skip, ↓w_block, reduceCtorEq, a5, a6, ↓w_exit, a7, if_true, onS_some, onB_true]
          refine call1 (by simp -implicitDefEqProofs only [List.map_cons, Nat.reduceLT, ev_tab, ne_eq, Nat.reduceEqDiff, not_false_eq_true, upd_ne, upd_eq, List.map_nil] <;> rfl) (rvS z p a3 hz) ?_
          cases hr2 : rdv z p 5 0 0 with
          | none =>
            rw [hr2] at a4
            subst a4
            rw [rvV_none rfl]
            simp -implicitDefEqProofs only [↓ops_cons, ↓g_move, ↓g_extract, Nat.reduceLT, ev_tab, upd_eq, ext_0, ne_eq, Nat.reduceEqDiff, not_false_eq_true, upd_ne, ext_1, ext_2, ↓g_assign, ↓ops_nil, ↓w_seq, ↓w_region, ↓g_unOp, ↓w_cond, ↓g_buildSlice, Try.underlying22, List.map_nil, bs3_0, ↓w_ret, ev_const, of_bool, retP_2, res_tmp, onS_some, alK_some, ints_one, List.length_append, List.length_cons, List.length_nil, Nat.zero_add, true_and, ↓w_skip, List.map_cons, ↓g_append, ↓g_binOp, of_int, u_not, Bool.not_false, Option.map_some, onB_true]
            refine ⟨_, rfl, ?_⟩
            have := at_end (G ++ [⟨ints .i64 acc, true, true⟩]) ⟨ints .i64 [], true, true⟩
            rwa [List.length_append] at this
          | some q =>
            obtain ⟨m, nx⟩ := q
            rw [hr2] at a4
            obtain ⟨hnx, hmm⟩ := rdv_le z p _ _ _ _ _ hr2
            rw [rvV_some rfl]
            simp -implicitDefEqProofs only [↓ops_cons, ↓g_move, ↓g_extract, Nat.reduceLT, ev_tab, upd_eq, ext_0, ne_eq, Nat.reduceEqDiff, not_false_eq_true, upd_ne, ext_1, ext_2, ↓g_assign, ↓ops_nil, ↓w_seq, ↓w_region, ↓g_unOp, ↓w_cond, ↓g_buildSlice, Try.underlying22, List.map_nil, bs3_0, ↓w_ret, ev_const, of_bool, retP_2, res_tmp, onS_some, alK_some, ints_one, List.length_append, List.length_cons, List.length_nil, Nat.zero_add, true_and, ↓w_skip, a7, List.map_cons, ↓g_append, apS22, ↓g_binOp, a9, of_int, b_add, e1, u_not, Bool.not_true, Option.map_some, onB_false, bs3_1, at_a, src_sl, at_b, at_ints, Nat.le_refl, List.drop_zero, List.take_succ_cons, List.take_zero, if_true, ap_ints, Nat.reduceLeDiff, htk, onS_ite]
            refine ⟨by omega, i + 1, by omega, _, _, acc ++ [(m : Int)], nx, rfl, by omega, by simp; omega, hnx, by rw [hf2]; exact a4, ?_, ?_, ?_, ?_, ?_⟩
            · simp -implicitDefEqProofs only [ne_eq, reduceCtorEq, not_false_eq_true, upd_ne, a5]
            · simp -implicitDefEqProofs only [ne_eq, Nat.reduceEqDiff, not_false_eq_true, upd_ne, a8]
            · simp -implicitDefEqProofs only [ne_eq, Nat.reduceEqDiff, not_false_eq_true, upd_ne, upd_eq]
            · simp -implicitDefEqProofs only [ne_eq, Nat.reduceEqDiff, not_false_eq_true, upd_ne, upd_eq, kill_len, List.length_append, List.length_cons, List.length_nil, Nat.zero_add]
              try simp only [kill_len, List.length_append, List.length_cons, List.length_nil]
              try rfl
            · simp -implicitDefEqProofs only [upd_eq] <;> rfl
        · have k2 : ¬ (i : Int) < c := by omega
          have hci : c - i = 0 := by omega
          rw [hci, rkL] at a4
          subst a4
          have hL : IsL (G ++ [⟨ints .i64 acc, true, true⟩]) (.sl G.length 0 acc.length 1) .i64 acc := .mk (at_end _ _)
          have hem : (G ++ [(⟨ints .i64 acc, true, true⟩ : Reg)] ++ [⟨ints .i64 [], true, true⟩])[G.length + 1]? = some ⟨ints .i64 [], true, true⟩ := at_b _ _ _
          simp -implicitDefEqProofs only [↓w_seq, ↓w_region, ↓ops_cons, ↓g_move, ↓g_binOp, Nat.reduceLT, ev_tab, a9, ne_eq, Nat.reduceEqDiff, not_false_eq_true, upd_ne, a8, upd_eq, b_lss, k2, decide_false, ↓ops_nil, ↓w_cond, ↓w_skip, ↓w_block, reduceCtorEq, a5, a6, ↓w_exit, a7, if_true, onS_some, onB_false]
          by_cases hU : UpL acc ∧ acc.length ≤ 100
          · refine call1S (by simp -implicitDefEqProofs only [List.map_cons, Nat.reduceLT, ev_tab, upd_eq, List.map_nil] <;> rfl) (ackS hU.1 hU.2 hL) ?_
            by_cases hq : ackT acc = z
            · rw [fin, if_pos ⟨hU, hq⟩, hq]
              simp -implicitDefEqProofs only [↓ops_cons, ↓g_move, ↓g_extract, Nat.reduceLT, ev_tab, upd_eq, ext_0, ne_eq, Nat.reduceEqDiff, not_false_eq_true, upd_ne, ext_1, ↓g_assign, ↓ops_nil, ↓w_seq, ↓w_region, ↓g_unOp, onS_some, u_not, Bool.not_true, Option.map_some, yielded_tab, dstAt_s, dstAt_0, ybv_some, boolOf_b, ↓g_guard_t, reduceCtorEq, a5, ↓g_binOp, ↓g_pick, ev_const, of_bool, pick_b, Bool.false_eq_true, if_false, ↓w_cond, ↓g_buildSlice, Try.underlying22, List.map_nil, bs3_0, ↓w_ret, retP_2, res_tmp, alK_some, ints_one, List.length_append, List.length_cons, List.length_nil, Nat.zero_add, true_and, ↓w_skip, a7, t_neq, beq_self_eq_true, onB_false]
              exact ⟨_, rfl, at_end _ _⟩
            · rw [fin, if_neg (fun x => hq x.2)]
              simp -implicitDefEqProofs only [↓ops_cons, ↓g_move, ↓g_extract, Nat.reduceLT, ev_tab, upd_eq, ext_0, ne_eq, Nat.reduceEqDiff, not_false_eq_true, upd_ne, ext_1, ↓g_assign, ↓ops_nil, ↓w_seq, ↓w_region, ↓g_unOp, onS_some, u_not, Bool.not_true, Option.map_some, yielded_tab, dstAt_s, dstAt_0, ybv_some, boolOf_b, ↓g_guard_t, reduceCtorEq, a5, ↓g_binOp, ↓g_pick, ev_const, of_bool, pick_b, Bool.false_eq_true, if_false, ↓w_cond, ↓g_buildSlice, Try.underlying22, List.map_nil, bs3_0, ↓w_ret, retP_2, res_tmp, alK_some, ints_one, List.length_append, List.length_cons, List.length_nil, Nat.zero_add, true_and, ↓w_skip, a7, t_neq, neT hq, Bool.not_false, onB_true]
              exact ⟨_, rfl, hem⟩
          · refine call1S (by simp -implicitDefEqProofs only [List.map_cons, Nat.reduceLT, ev_tab, upd_eq, List.map_nil] <;> rfl) (ackNoS hU (by omega) hL) ?_
            rw [fin, if_neg (fun x => hU x.1)]
            simp -implicitDefEqProofs only [↓ops_cons, ↓g_move, ↓g_extract, Nat.reduceLT, ev_tab, upd_eq, ext_0, ne_eq, Nat.reduceEqDiff, not_false_eq_true, upd_ne, ext_1, ↓g_assign, ↓ops_nil, ↓w_seq, ↓w_region, ↓g_unOp, onS_some, u_not, Bool.not_false, Option.map_some, yielded_tab, dstAt_s, dstAt_0, ybv_some, boolOf_b, ↓g_guard_f, ↓g_pick, ev_const, of_bool, pick_b, if_true, ↓w_cond, ↓g_buildSlice, Try.underlying22, List.map_nil, bs3_0, ↓w_ret, retP_2, res_tmp, alK_some, ints_one, List.length_append, List.length_cons, List.length_nil, Nat.zero_add, true_and, ↓w_skip, a7, onB_true]
            exact ⟨_, rfl, hem⟩
      · refine ⟨_, [], [], k, rfl, by omega, rfl, hk, hR, ?_, ?_, ?_, ?_, ?_⟩ <;> simp -implicitDefEqProofs only [ne_eq, reduceCtorEq, not_false_eq_true, upd_ne, par0, Nat.reduceEqDiff, upd_eq, List.length_nil, Int.cast_ofNat_Int] <;> rfl
end Go.Proofs.Ytcjjcpdfnndenaa.Sim
namespace Go.Proofs.Ytcjjcpdfnndenaa.Sim
open Go
set_option maxRecDepth 100000
set_option maxHeartbeats 4000000
set_option linter.unusedSimpArgs false
set_option linter.unusedVariables false
theorem rAck_len {z : ByteArray} {l : List Int} (h : rAck z = some l) : l.length ≤ 100 := by
  unfold rAck at h
  split at h
  · split at h
    · cases h
    · unfold fin at h
      split at h
      · split at h
        · rename_i hc
          injection h with h
          subst h
          exact hc.1.2
        · cases h
      · cases h
  · cases h
theorem rI_some {z : ByteArray} {l : List Int} (hz : z.size ≤ 1000000000) (h : rAck z = some l) (H : AHeap) : Sound Try.prog 27 [.sc (.string z)] H (.tup [.sl H.length 0 l.length 1, .sc (.bool true)]) (H ++ [⟨ints .i64 l, true, true⟩]) := by
  obtain ⟨v, Z, h1, h2⟩ := rAckI z hz
  rw [h] at h2
  obtain ⟨x, rfl, hx⟩ := h2
  exact Sound.fresh H x _ h1 hx (FlatReg.ints _ _ _ _) (flats_cons (.sc _) flats_nil) (.tups (.cons (.sl (if_pos rfl)) (.cons (.flat (.sc _)) .nil)))
theorem rS_some {z : ByteArray} {l : List Int} (hz : z.size ≤ 1000000000) (h : rAck z = some l) (H : AHeap) : Sound Try.prog 26 [.sc (.string z)] H (.tup [.sl H.length 0 l.length 1, .sc (.bool true)]) (H ++ [⟨ints .i64 l, true, true⟩]) := by
  obtain ⟨v, Z, h1, h2⟩ := rAckS z hz
  rw [h] at h2
  obtain ⟨x, rfl, hx⟩ := h2
  exact Sound.fresh H x _ h1 hx (FlatReg.ints _ _ _ _) (flats_cons (.sc _) flats_nil) (.tups (.cons (.sl (if_pos rfl)) (.cons (.flat (.sc _)) .nil)))
theorem rI_none {z : ByteArray} (hz : z.size ≤ 1000000000) (h : rAck z = none) : Fn Try.prog 27 [.sc (.string z)] (.tup [.sc (.slice none 0 0), .sc (.bool false)]) := by
  obtain ⟨v, Z, h1, h2⟩ := rAckI z hz
  rw [h] at h2
  have h2 : v = .tup [.sc (.slice none 0 0), .sc (.bool false)] := h2
  subst h2
  exact Fn.of (flats_cons (.sc _) flats_nil) (.tup (flats_cons (.sc _) (flats_cons (.sc _) flats_nil))) h1
theorem rS_none {z : ByteArray} (hz : z.size ≤ 1000000000) (h : rAck z = none) (H : AHeap) : Sound Try.prog 26 [.sc (.string z)] H (.tup [.sl H.length 0 0 1, .sc (.bool false)]) (H ++ [⟨ints .i64 [], true, true⟩]) := by
  obtain ⟨v, Z, h1, h2⟩ := rAckS z hz
  rw [h] at h2
  obtain ⟨x, rfl, hx⟩ := h2
  exact Sound.fresh H x _ h1 hx (FlatReg.ints _ _ _ _) (flats_cons (.sc _) flats_nil) (.tups (.cons (.sl (if_pos rfl)) (.cons (.flat (.sc _)) .nil)))
theorem lawFnExactReadAck (z : ByteArray) (w : z.size ≤ 140737488351232) : Fn Try.prog 6 [.sc (.string z)] (.sc (.bool true)) := by
  refine Fn.run 66 [.tmp 2] Try.func6 rfl rfl rfl rfl (by simp) (flats_cons (.sc _) flats_nil) (.sc _) ?_
  simp -implicitDefEqProofs only [↓w_seq, ↓w_region, ↓ops_cons, ↓g_assign, ↓ops_nil, ev_const, of_bool, ↓g_move, ↓g_len, Try.underlying9, Nat.reduceLT, ev_tab, ne_eq, reduceCtorEq, not_false_eq_true, upd_ne, par0, upd_eq, len_str, ↓g_binOp, of_int, ↓w_cond, ↓w_ret, ret_one, ↓w_skip, onS_some, b_gtr, onB_dec]
  split
  · trivial
  · have hz : z.size ≤ 1000000000 := by omega
    cases h : rAck z with
    | some l =>
      have hl := rAck_len h
      have hS := rS_some hz h
      have hI := rI_some hz h
      have hn : ¬ ((l.length : Int) + 1 < 0) := by omega
      refine call1S (by simp -implicitDefEqProofs only [List.map_cons, Nat.reduceLT, ev_tab, upd_eq, List.map_nil] <;> rfl) (hS _) ?_
      simp -implicitDefEqProofs only [↓ops_cons, ↓g_move, ↓g_extract, List.length_nil, Nat.reduceLT, ev_tab, upd_eq, ext_0, ne_eq, Nat.reduceEqDiff, not_false_eq_true, upd_ne, ext_1, ↓g_assign, ↓ops_nil, ↓w_seq, ↓w_region, List.nil_append, reduceCtorEq, par0, onS_some]
      refine call1S (by simp -implicitDefEqProofs only [List.map_cons, Nat.reduceLT, ev_tab, upd_eq, List.map_nil] <;> rfl) (hI _) ?_
      simp -implicitDefEqProofs only [↓ops_cons, ↓g_move, ↓g_extract, List.length_cons, List.length_nil, Nat.zero_add, Nat.reduceLT, ev_tab, upd_eq, ext_0, ne_eq, Nat.reduceEqDiff, not_false_eq_true, upd_ne, ext_1, ↓g_assign, ↓ops_nil, ↓w_seq, ↓w_region, List.cons_append, List.nil_append, onS_some]
      refine call1S (by simp -implicitDefEqProofs only [List.map_cons, Nat.reduceLT, ev_tab, ne_eq, Nat.reduceEqDiff, not_false_eq_true, upd_ne, upd_eq, List.map_nil] <;> rfl) (eqS (.at rfl rfl) (.at rfl rfl) (by omega) (by omega)) ?_
      simp -implicitDefEqProofs only [↓ops_cons, ↓g_unOp, decide_true, Nat.reduceLT, ev_tab, upd_eq, u_not, Bool.not_true, Option.map_some, ↓g_move, onS_some, yielded_tab, dstAt_s, dstAt_0, ybv_some, boolOf_b, ↓g_guard_t, ne_eq, Nat.reduceEqDiff, not_false_eq_true, upd_ne, ↓g_binOp, Try.underlying4, v_neq, beq_self_eq_true, ↓g_pick, ev_const, of_bool, pick_b, Bool.false_eq_true, if_false, ↓ops_nil, ↓w_cond, ↓w_seq, ↓w_region, ↓g_assign, ↓w_ret, ret_one, ↓w_skip, of_int, onB_false]
      refine call1S (by simp -implicitDefEqProofs only [List.map_cons, Nat.reduceLT, ev_tab, ne_eq, Nat.reduceEqDiff, not_false_eq_true, upd_ne, upd_eq, List.map_nil] <;> rfl) (markS' rfl rfl (by omega)) ?_
      simp -implicitDefEqProofs only [↓ops_cons, ↓g_assign, ↓ops_nil, ↓w_seq, ↓w_region, Nat.reduceLT, ev_tab, upd_eq, List.set_cons_succ, List.set_cons_zero, ev_const, of_int, ↓g_move, ne_eq, Nat.reduceEqDiff, not_false_eq_true, upd_ne]
      refine call1S (by simp -implicitDefEqProofs only [List.map_cons, Nat.reduceLT, ev_tab, ne_eq, Nat.reduceEqDiff, not_false_eq_true, upd_ne, upd_eq, List.map_nil] <;> rfl) (heldS (n := l.length) (.at rfl (marked_len _ _)) (by omega)) ?_
      simp -implicitDefEqProofs only [↓ops_cons, ↓g_assign, ↓ops_nil, ↓w_seq, ↓w_region, Nat.reduceLT, ev_tab, upd_eq, ↓g_move, ↓g_binOp, ev_const, of_int, b_lss, hn, decide_false, ↓w_cond, ↓w_ret, of_bool, ret_one, ↓w_skip, ne_eq, Nat.reduceEqDiff, not_false_eq_true, upd_ne, b_neq, decide_true, Bool.not_true, reduceCtorEq, par0, onS_some, onB_false]
      refine call1S (by simp -implicitDefEqProofs only [List.map_cons, Nat.reduceLT, ev_tab, upd_eq, List.map_nil] <;> rfl) (hI _) ?_
      simp -implicitDefEqProofs only [↓ops_cons, ↓g_move, ↓g_extract, List.length_cons, List.length_nil, Nat.zero_add, Nat.reduceAdd, Nat.reduceLT, ev_tab, upd_eq, ext_0, ne_eq, Nat.reduceEqDiff, not_false_eq_true, upd_ne, ext_1, ↓g_assign, ↓ops_nil, ↓w_seq, ↓w_region, List.cons_append, List.nil_append, onS_some]
      refine call1S (by simp -implicitDefEqProofs only [List.map_cons, Nat.reduceLT, ev_tab, ne_eq, Nat.reduceEqDiff, not_false_eq_true, upd_ne, upd_eq, List.map_nil] <;> rfl) (eqS (.at rfl rfl) (.at rfl rfl) (by omega) (by omega)) ?_
      simp -implicitDefEqProofs only [↓ops_cons, ↓g_unOp, decide_true, Nat.reduceLT, ev_tab, upd_eq, u_not, Bool.not_true, Option.map_some, ↓g_move, onS_some, yielded_tab, dstAt_s, dstAt_0, ybv_some, boolOf_b, ↓g_guard_t, ne_eq, Nat.reduceEqDiff, not_false_eq_true, upd_ne, ↓g_binOp, Try.underlying4, v_neq, beq_self_eq_true, ↓g_pick, ev_const, of_bool, pick_b, Bool.false_eq_true, if_false, ↓ops_nil, ↓w_cond, ↓w_seq, ↓w_region, ↓g_assign, ↓w_ret, ret_one, ↓w_skip, of_int, onB_false]
      refine call1S (by simp -implicitDefEqProofs only [List.map_cons, Nat.reduceLT, ev_tab, ne_eq, Nat.reduceEqDiff, not_false_eq_true, upd_ne, upd_eq, List.map_nil] <;> rfl) (heldS (n := l.length) (.at rfl (marked_len _ _)) (by omega)) ?_
      simp -implicitDefEqProofs only [↓ops_cons, ↓g_assign, ↓ops_nil, ↓w_seq, ↓w_region, Nat.reduceLT, ev_tab, upd_eq, ↓g_move, ↓g_binOp, ev_const, of_int, b_lss, hn, decide_false, ↓w_cond, ↓w_ret, of_bool, ret_one, ↓w_skip, ne_eq, Nat.reduceEqDiff, not_false_eq_true, upd_ne, b_neq, decide_true, Bool.not_true, onS_some, onB_false]
    | none =>
      have hS := rS_none hz h
      have hI := rI_none hz h
      refine call1S (by simp -implicitDefEqProofs only [List.map_cons, Nat.reduceLT, ev_tab, upd_eq, List.map_nil] <;> rfl) (hS _) ?_
      simp -implicitDefEqProofs only [↓ops_cons, ↓g_move, ↓g_extract, List.length_nil, Nat.reduceLT, ev_tab, upd_eq, ext_0, ne_eq, Nat.reduceEqDiff, not_false_eq_true, upd_ne, ext_1, ↓g_assign, ↓ops_nil, ↓w_seq, ↓w_region, List.nil_append, reduceCtorEq, par0, onS_some]
      refine call1 (by simp -implicitDefEqProofs only [List.map_cons, Nat.reduceLT, ev_tab, upd_eq, List.map_nil] <;> rfl) hI ?_
      simp -implicitDefEqProofs only [↓ops_cons, ↓g_move, ↓g_extract, Nat.reduceLT, ev_tab, upd_eq, ext_0, ne_eq, Nat.reduceEqDiff, not_false_eq_true, upd_ne, ext_1, ↓g_assign, ↓ops_nil, ↓w_seq, ↓w_region, onS_some]
      refine call1S (by simp -implicitDefEqProofs only [List.map_cons, Nat.reduceLT, ev_tab, ne_eq, Nat.reduceEqDiff, not_false_eq_true, upd_ne, upd_eq, List.map_nil, List.length_nil] <;> rfl) (eqS (l := []) (m := []) (.nil _ _) (.at rfl rfl) (by decide) (by decide)) ?_
      simp -implicitDefEqProofs only [↓ops_cons, ↓g_unOp, decide_true, Nat.reduceLT, ev_tab, upd_eq, u_not, Bool.not_true, Option.map_some, ↓g_move, onS_some, yielded_tab, dstAt_s, dstAt_0, ybv_some, boolOf_b, ↓g_guard_t, ne_eq, Nat.reduceEqDiff, not_false_eq_true, upd_ne, ↓g_binOp, Try.underlying4, v_neq, beq_self_eq_true, ↓g_pick, ev_const, of_bool, pick_b, Bool.false_eq_true, if_false, ↓ops_nil, ↓w_cond, ↓w_seq, ↓w_region, ↓g_assign, ↓w_ret, ret_one, ↓w_skip, of_int, onB_false]
      refine call1S (by simp -implicitDefEqProofs only [List.map_cons, Nat.reduceLT, ev_tab, ne_eq, Nat.reduceEqDiff, not_false_eq_true, upd_ne, upd_eq, List.map_nil] <;> rfl) (markN _) ?_
      simp -implicitDefEqProofs only [↓ops_cons, ↓g_assign, ↓ops_nil, ↓w_seq, ↓w_region, Nat.reduceLT, ev_tab, upd_eq, ev_const, of_int, ↓g_move, ne_eq, Nat.reduceEqDiff, not_false_eq_true, upd_ne]
      refine call1S (by simp -implicitDefEqProofs only [List.map_cons, Nat.reduceLT, ev_tab, ne_eq, Nat.reduceEqDiff, not_false_eq_true, upd_ne, upd_eq, List.map_nil] <;> rfl) (heldS (n := 0) (.nil _ _) (by omega)) ?_
      simp -implicitDefEqProofs only [↓ops_cons, ↓g_assign, ↓ops_nil, ↓w_seq, ↓w_region, Int.cast_ofNat_Int, Int.reduceAdd, Nat.reduceLT, ev_tab, upd_eq, ↓g_move, ↓g_binOp, ev_const, of_int, b_lss, Int.reduceLT, decide_false, ↓w_cond, ↓w_ret, of_bool, ret_one, ↓w_skip, ne_eq, Nat.reduceEqDiff, not_false_eq_true, upd_ne, b_neq, decide_true, Bool.not_true, reduceCtorEq, par0, onS_some, onB_false]
      refine call1 (by simp -implicitDefEqProofs only [List.map_cons, Nat.reduceLT, ev_tab, upd_eq, List.map_nil] <;> rfl) hI ?_
      simp -implicitDefEqProofs only [↓ops_cons, ↓g_move, ↓g_extract, Nat.reduceLT, ev_tab, upd_eq, ext_0, ne_eq, Nat.reduceEqDiff, not_false_eq_true, upd_ne, ext_1, ↓g_assign, ↓ops_nil, ↓w_seq, ↓w_region, onS_some]
      refine call1S (by simp -implicitDefEqProofs only [List.map_cons, Nat.reduceLT, ev_tab, ne_eq, Nat.reduceEqDiff, not_false_eq_true, upd_ne, upd_eq, List.map_nil, List.length_nil] <;> rfl) (eqS (l := []) (m := []) (.nil _ _) (.at rfl rfl) (by decide) (by decide)) ?_
      simp -implicitDefEqProofs only [↓ops_cons, ↓g_unOp, decide_true, Nat.reduceLT, ev_tab, upd_eq, u_not, Bool.not_true, Option.map_some, ↓g_move, onS_some, yielded_tab, dstAt_s, dstAt_0, ybv_some, boolOf_b, ↓g_guard_t, ne_eq, Nat.reduceEqDiff, not_false_eq_true, upd_ne, ↓g_binOp, Try.underlying4, v_neq, beq_self_eq_true, ↓g_pick, ev_const, of_bool, pick_b, Bool.false_eq_true, if_false, ↓ops_nil, ↓w_cond, ↓w_seq, ↓w_region, ↓g_assign, ↓w_ret, ret_one, ↓w_skip, of_int, onB_false]
      refine call1S (by simp -implicitDefEqProofs only [List.map_cons, Nat.reduceLT, ev_tab, ne_eq, Nat.reduceEqDiff, not_false_eq_true, upd_ne, upd_eq, List.map_nil] <;> rfl) (heldS (n := 0) (.nil _ _) (by omega)) ?_
      simp -implicitDefEqProofs only [↓ops_cons, ↓g_assign, ↓ops_nil, ↓w_seq, ↓w_region, Int.cast_ofNat_Int, Int.reduceAdd, Nat.reduceLT, ev_tab, upd_eq, ↓g_move, ↓g_binOp, ev_const, of_int, b_lss, Int.reduceLT, decide_false, ↓w_cond, ↓w_ret, of_bool, ret_one, ↓w_skip, ne_eq, Nat.reduceEqDiff, not_false_eq_true, upd_ne, b_neq, decide_true, Bool.not_true, onS_some, onB_false]
end Go.Proofs.Ytcjjcpdfnndenaa.Sim
namespace Go.Proofs.Ytcjjcpdfnndenaa.Sim
open Go
set_option linter.unusedSimpArgs false
set_option linter.unusedVariables false
theorem g_guard_v {P : Program} {ops : Array Oper} {K : St → Prop} {n : Nat} {T : Nat → AV} {H : AHeap} {d : Tmp} {ty : TypeId} {pos : String} {af : Array Edge} {op : Op} {j : Nat} {want : Bool} (h : yieldedA ops (tab n T) j = none) : opG P ops ⟨some d, op, ty, pos, af, some (j, want)⟩ K ⟨tab n T, H⟩ = K ⟨tab n (upd T d und), H⟩ := by
  rw [g_guard]
  simp only [h]
  have : ((none : Option Bool) == some want) = false := rfl
  simp only [this, St.put, set_tab]
theorem bo_v : boolOf und = none := rfl
theorem hap_0 (H Y : AHeap) : (H ++ Y)[H.length]? = Y[0]? := by
  rw [List.getElem?_append_right (Nat.le_refl _), Nat.sub_self]
theorem hap_k (H Y : AHeap) (k : Nat) : (H ++ Y)[H.length + k]? = Y[k]? := by
  rw [List.getElem?_append_right (by omega), Nat.add_sub_cancel_left]
theorem hset_0 (H Y : AHeap) (g : Reg) : (H ++ Y).set H.length g = H ++ Y.set 0 g := by
  rw [List.set_append_right _ _ (Nat.le_refl _), Nat.sub_self]
theorem hset_k (H Y : AHeap) (k : Nat) (g : Reg) : (H ++ Y).set (H.length + k) g = H ++ Y.set k g := by
  rw [List.set_append_right _ _ (by omega), Nat.add_sub_cancel_left]
theorem hkill_k (H Y : AHeap) (k : Nat) : killReg (H ++ Y) (H.length + k) = H ++ killReg Y k := by
  simp only [killReg]
  apply List.ext_getElem?
  intro i
  rw [List.getElem?_modify]
  by_cases h : i < H.length
  · have : ¬ H.length + k = i := by omega
    simp only [List.getElem?_append_left h, this, if_false]
    cases H[i]? <;> rfl
  · rw [List.getElem?_append_right (by omega), List.getElem?_append_right (by omega), List.getElem?_modify]
    have e : (H.length + k = i) = (k = i - H.length) := propext ⟨fun h => by omega, fun h => by omega⟩
    simp only [e]
theorem hkill_0 (H Y : AHeap) : killReg (H ++ Y) H.length = H ++ killReg Y 0 := hkill_k H Y 0
theorem at_lt {H : AHeap} {r : Nat} {g : Reg} (h : H[r]? = some g) : r < H.length := (List.getElem?_eq_some_iff.1 h).1
theorem kill_at (H : AHeap) (q r : Nat) (h : r ≠ q) : (killReg H q)[r]? = H[r]? := by
  simp only [killReg, List.getElem?_modify]
  have : ¬ q = r := fun e => h e.symm
  simp [this]
/-- All is as it was; more may be there. -/
def Ext (H Z : AHeap) : Prop := H.length ≤ Z.length ∧ ∀ i, i < H.length → Z[i]? = H[i]?
theorem Ext.refl (H : AHeap) : Ext H H := ⟨Nat.le_refl _, fun _ _ => _root_.rfl⟩
theorem Ext.trans {H Z Y : AHeap} (a : Ext H Z) (b : Ext Z Y) : Ext H Y := ⟨Nat.le_trans a.1 b.1, fun i h => (b.2 i (Nat.lt_of_lt_of_le h a.1)).trans (a.2 i h)⟩
theorem Ext.more (H Y : AHeap) : Ext H (H ++ Y) := ⟨by rw [List.length_append]; omega, fun i h => at_more _ _ _ h⟩
theorem Ext.kill {H Z : AHeap} (a : Ext H Z) {q : Nat} (hq : H.length ≤ q) : Ext H (killReg Z q) := ⟨by rw [kill_len]; exact a.1, fun i h => (kill_at _ _ _ (by omega)).trans (a.2 i h)⟩
theorem Ext.set {H Z : AHeap} (a : Ext H Z) {q : Nat} (hq : H.length ≤ q) (g : Reg) : Ext H (Z.set q g) := ⟨by rw [List.length_set]; exact a.1, fun i h => (List.getElem?_set_ne (by omega)).trans (a.2 i h)⟩
theorem Ext.add {H Z : AHeap} (a : Ext H Z) (Y : AHeap) : Ext H (Z ++ Y) := a.trans (.more _ _)
theorem Ext.at {H Z : AHeap} (a : Ext H Z) {r : Nat} {g : Reg} (h : H[r]? = some g) : Z[r]? = some g := (a.2 r (at_lt h)).trans h
theorem Ext.isL {H Z : AHeap} (a : Ext H Z) {y : AV} {k : IntKind} {l : List Int} (h : IsL H y k l) : IsL Z y k l := by
  rcases h with ⟨rfl, rfl⟩ | ⟨q, o, rfl, hq⟩
  · exact .nil _ _
  · exact .inr ⟨q, o, _root_.rfl, a.at hq⟩
theorem Ext.isB {H Z : AHeap} (a : Ext H Z) {y : AV} {l : List Bool} (h : IsB H y l) : IsB Z y l := by
  rcases h with ⟨rfl, rfl⟩ | ⟨q, o, rfl, hq⟩
  · exact .nil _
  · exact .inr ⟨q, o, _root_.rfl, a.at hq⟩
/-- What is read is the same, though the memory has changed elsewhere. -/
theorem same_ld {P : Program} {ops : Array Oper} {hs : List St} {j k : Nat} (t : TypeId) (x : Operand) (r off : Nat) (ho : (opAt ops j).op = .load t x) (hv : ev (hs.getD (ops.size - j) ⟨[], []⟩).ts x = .ptr r off) (h : (hs.getD (ops.size - k) ⟨[], []⟩).H[r]? = (hs.getD (ops.size - j) ⟨[], []⟩).H[r]?) : sameRead P ops hs (j, k) := fun _ => .inr <| by
  show evRead P (hs.getD (ops.size - j) ⟨[], []⟩).ts (opAt ops j).op (hs.getD (ops.size - k) ⟨[], []⟩).H = evRead P (hs.getD (ops.size - j) ⟨[], []⟩).ts (opAt ops j).op (hs.getD (ops.size - j) ⟨[], []⟩).H
  rw [ho]
  simp only [evRead, hv, cellsAt, h]
theorem ev_cv {P : Program} {ts : List AV} {H G : AHeap} (t u : TypeId) (x : Operand) (r off len sz : Nat) (hv : ev ts x = .sl r off len sz) (h : H[r]? = G[r]?) : evRead P ts (.convert t u x) H = evRead P ts (.convert t u x) G := by
  have hc : cellsAt H r off len = cellsAt G r off len := by unfold cellsAt; rw [h]
  unfold evRead
  simp only [hv]
  cases P.underlying t with
  | none => rfl
  | some D =>
    cases D <;> first | rfl | skip
    cases P.underlying u with
    | none => rfl
    | some E =>
      cases E <;> first | rfl | skip
      simp only [hc]
theorem same_cv {P : Program} {ops : Array Oper} {hs : List St} {j k : Nat} (t u : TypeId) (x : Operand) (r off len sz : Nat) (ho : (opAt ops j).op = .convert t u x) (hv : ev (hs.getD (ops.size - j) ⟨[], []⟩).ts x = .sl r off len sz) (h : (hs.getD (ops.size - k) ⟨[], []⟩).H[r]? = (hs.getD (ops.size - j) ⟨[], []⟩).H[r]?) : sameRead P ops hs (j, k) := fun _ => .inr <| by
  show evRead P (hs.getD (ops.size - j) ⟨[], []⟩).ts (opAt ops j).op (hs.getD (ops.size - k) ⟨[], []⟩).H = evRead P (hs.getD (ops.size - j) ⟨[], []⟩).ts (opAt ops j).op (hs.getD (ops.size - j) ⟨[], []⟩).H
  rw [ho]
  exact ev_cv t u x r off len sz hv h
end Go.Proofs.Ytcjjcpdfnndenaa.Sim
namespace Go.Proofs.Ytcjjcpdfnndenaa.Sim
open Go
set_option maxRecDepth 100000
set_option maxHeartbeats 40000000
set_option linter.unusedSimpArgs false
set_option linter.unusedVariables false
theorem take_s (l : List Int) (i : Nat) (h : i < l.length) : l.take (i + 1) = l.take i ++ [l.getD i 0] := by
  rw [List.take_add_one, List.getD_eq_getElem?_getD, List.getElem?_eq_getElem h]
  rfl
theorem mem_get {l : List Int} {v : Int} (h : v ∈ l) : ∃ i, i < l.length ∧ l.getD i 0 = v := by
  obtain ⟨i, hi, rfl⟩ := List.getElem_of_mem h
  exact ⟨i, hi, by simp [hi]⟩
theorem get_mem (l : List Int) (i : Nat) (h : i < l.length) : l.getD i 0 ∈ l := by
  rw [List.getD_eq_getElem?_getD, List.getElem?_eq_getElem h]
  exact List.getElem_mem h
theorem inLS {H : AHeap} {x : AV} {l : List Int} (v : Int) (hx : IsL H x .i64 l) (hl : l.length ≤ 1000000000) : Sound Try.prog 49 [x, .sc (.int .i64 v)] H (.sc (.bool (decide (v ∈ l)))) H := by
  refine Sound.run 18 [.tmp 4] Try.func49 rfl rfl rfl rfl (by simp) ?_
  have lx := fun e => hx.len e
  simp -implicitDefEqProofs only [↓w_seq, ↓w_region, ↓ops_cons, ↓g_assign, ↓ops_nil, ev_const, of_bool, ↓w_block, of_int]
  refine w_loop (ι := Nat) (fun i s => ∃ T : Nat → AV, s = ⟨tab 18 T, H⟩ ∧ i ≤ l.length ∧ (∀ j, j < i → l.getD j 0 ≠ v) ∧ T 0 = x ∧ T 1 = .sc (.int .i64 v) ∧ T 5 = .sc (.int .i64 i)) (fun i => l.length - i) ?_ (i := 0) ?_
  · rintro i s ⟨T, rfl, a1, a0, a2, a3, a4⟩
    by_cases h : i < l.length
    · have k1 : (i : Int) < l.length := by omega
      have k2 : (0 : Int) ≤ i := by omega
      have e1 : IntKind.i64.wrap ((i : Int) + 1) = i + 1 := w64 (by omega) (by omega)
      obtain ⟨r, o, rfl, hr⟩ := hx.get (i := i) h
      by_cases hv : l.getD i 0 = v
      · have hm : decide (v ∈ l) = true := decide_eq_true (hv ▸ get_mem l i h)
        simp -implicitDefEqProofs only [↓w_seq, ↓w_region, ne_eq, hm, ↓ops_cons, ↓g_move, ↓g_len, Try.underlying22, Nat.reduceLT, ev_tab, a4, reduceCtorEq, not_false_eq_true, upd_ne, a2, upd_eq, lx, ↓g_binOp, Nat.reduceEqDiff, ↓ops_nil, ↓w_cond, ↓w_skip, ↓w_block, ↓g_indexAddr, adr_sl, k2, k1, cells3, tyOk3, and_self, Int.toNat_natCast, Nat.mul_one, Nat.zero_add, if_true, ↓g_load, a3, ↓g_assign, ↓w_ret, ev_const, of_bool, ret_one, of_int, b_add, onS_some, rd_def, agg3, hr, rd_ints, h, hv, b_eql, decide_true, onB_true, ↓w_exit, and_true, b_lss]
      · simp -implicitDefEqProofs only [↓w_seq, ↓w_region, ne_eq, ↓ops_cons, ↓g_move, ↓g_len, Try.underlying22, Nat.reduceLT, ev_tab, a4, reduceCtorEq, not_false_eq_true, upd_ne, a2, upd_eq, lx, ↓g_binOp, Nat.reduceEqDiff, ↓ops_nil, ↓w_cond, ↓w_skip, ↓w_block, ↓g_indexAddr, adr_sl, k2, k1, cells3, tyOk3, and_self, Int.toNat_natCast, Nat.mul_one, Nat.zero_add, if_true, ↓g_load, a3, ↓g_assign, ↓w_ret, ev_const, of_bool, ret_one, and_true, of_int, b_add, e1, onS_some, rd_def, agg3, hr, rd_ints, h, b_eql, hv, decide_false, onB_false, ↓w_exit, b_lss, decide_true, onB_true]
        refine ⟨i + 1, by omega, _, rfl, by omega, ?_, ?_, ?_, ?_⟩
        · intro j hj
          rcases Nat.lt_or_ge j i with q | q
          · exact a0 j q
          · obtain rfl : j = i := by omega
            exact hv
        all_goals (simp -implicitDefEqProofs only [ne_eq, reduceCtorEq, not_false_eq_true, upd_ne, a2, Nat.reduceEqDiff, a3, upd_eq] <;> rfl)
    · have k1 : ¬ (i : Int) < l.length := by omega
      have hm : decide (v ∈ l) = false := decide_eq_false fun hm => by
        obtain ⟨j, j1, j2⟩ := mem_get hm
        exact a0 j (by omega) j2
      simp -implicitDefEqProofs only [↓w_seq, ↓w_region, ne_eq, hm, ↓ops_cons, ↓g_move, ↓g_len, Try.underlying22, Nat.reduceLT, ev_tab, a4, reduceCtorEq, not_false_eq_true, upd_ne, a2, upd_eq, lx, ↓g_binOp, Nat.reduceEqDiff, ↓ops_nil, ↓w_cond, ↓w_skip, ↓w_block, ↓g_indexAddr, ↓g_load, a3, ↓g_assign, ↓w_ret, ev_const, of_bool, ret_one, and_true, of_int, b_add, onS_some, ↓w_exit, and_self, if_true, b_lss, k1, decide_false, onB_false]
  · refine ⟨_, rfl, by omega, fun j hj => by omega, ?_, ?_, ?_⟩ <;> simp -implicitDefEqProofs only [ne_eq, reduceCtorEq, not_false_eq_true, upd_ne, par0, Nat.reduceEqDiff, par1, upd_eq, Int.cast_ofNat_Int] <;> rfl
theorem indexI {H : AHeap} {x : AV} {l : List Int} (v : Int) (hx : IsL H x .i64 l) (hl : l.length ≤ 1000000000) : ∃ n : Int, Sound Try.prog 67 [x, .sc (.int .i64 v)] H (.sc (.int .i64 n)) H ∧ (0 ≤ n ↔ v ∈ l) := by
  suffices h : ∃ w Z, Sound Try.prog 67 [x, .sc (.int .i64 v)] H w Z ∧ ∃ n : Int, w = .sc (.int .i64 n) ∧ Z = H ∧ (0 ≤ n ↔ v ∈ l) by
    obtain ⟨w, Z, h1, n, rfl, rfl, h2⟩ := h
    exact ⟨n, h1, h2⟩
  refine Sound.runP (args := [x, .sc (.int .i64 v)]) 19 [.tmp 4] Try.func67 rfl rfl rfl rfl (by simp) (fun w Z => ∃ n : Int, w = .sc (.int .i64 n) ∧ Z = H ∧ (0 ≤ n ↔ v ∈ l)) ?_
  have lx := fun e => hx.len e
  simp -implicitDefEqProofs only [↓w_seq, ↓w_region, Int.reduceNeg, ↓ops_cons, ↓g_assign, ↓ops_nil, ev_const, of_int, ↓g_move, ↓g_len, Try.underlying22, Nat.reduceLT, ev_tab, ne_eq, reduceCtorEq, not_false_eq_true, upd_ne, par0, upd_eq, lx, ↓w_block, onS_some]
  refine w_loop (ι := Nat) (fun i s => ∃ T : Nat → AV, s = ⟨tab 19 T, H⟩ ∧ i ≤ l.length ∧ (∀ j, j < i → l.getD j 0 ≠ v) ∧ T 0 = x ∧ T 1 = .sc (.int .i64 v) ∧ T 7 = .sc (.int .i64 l.length) ∧ T 8 = .sc (.int .i64 i)) (fun i => l.length - i) ?_ (i := 0) ?_
  · rintro i s ⟨T, rfl, a1, a0, a2, a3, a4, a5⟩
    by_cases h : i < l.length
    · have k1 : (i : Int) < l.length := by omega
      have k2 : (0 : Int) ≤ i := by omega
      have e1 : IntKind.i64.wrap ((i : Int) + 1) = i + 1 := w64 (by omega) (by omega)
      obtain ⟨r, o, rfl, hr⟩ := hx.get (i := i) h
      by_cases hv : v = l.getD i 0
      · have hv2 := eq_true hv
        simp -implicitDefEqProofs only [↓w_seq, ↓w_region, ne_eq, Int.reduceNeg, ↓ops_cons, ↓g_binOp, Nat.reduceLT, ev_tab, a5, a4, b_lss, k1, decide_true, ↓ops_nil, ↓w_cond, upd_eq, ↓w_skip, ↓w_block, ↓g_move, ↓g_assign, Nat.reduceEqDiff, not_false_eq_true, upd_ne, ↓g_indexAddr, Try.underlying22, a3, reduceCtorEq, a2, adr_sl, k2, cells3, tyOk3, and_self, Int.toNat_natCast, Nat.mul_one, Nat.zero_add, if_true, ↓g_load, ↓w_ret, retP_1, res_tmp, true_and, onS_some, ev_const, of_int, b_add, rd_def, agg3, hr, rd_ints, h, b_eql, hv2, onB_true, ↓w_exit]
        exact ⟨_, rfl, ⟨fun _ => hv ▸ get_mem l i h, fun _ => k2⟩⟩
      · simp -implicitDefEqProofs only [↓w_seq, ↓w_region, ne_eq, Int.reduceNeg, ↓ops_cons, ↓g_binOp, Nat.reduceLT, ev_tab, a5, a4, b_lss, k1, decide_true, ↓ops_nil, ↓w_cond, upd_eq, ↓w_skip, ↓w_block, ↓g_move, ↓g_assign, Nat.reduceEqDiff, not_false_eq_true, upd_ne, ↓g_indexAddr, Try.underlying22, a3, reduceCtorEq, a2, adr_sl, k2, cells3, tyOk3, and_self, Int.toNat_natCast, Nat.mul_one, Nat.zero_add, if_true, ↓g_load, ↓w_ret, retP_1, res_tmp, true_and, onS_some, ev_const, of_int, b_add, e1, rd_def, agg3, hr, rd_ints, h, b_eql, hv, decide_false, onB_false, ↓w_exit, onB_true]
        refine ⟨i + 1, by omega, _, rfl, by omega, ?_, ?_, ?_, ?_, ?_⟩
        · intro j hj
          rcases Nat.lt_or_ge j i with q | q
          · exact a0 j q
          · obtain rfl : j = i := by omega
            exact fun h => hv h.symm
        all_goals (simp -implicitDefEqProofs only [ne_eq, reduceCtorEq, not_false_eq_true, upd_ne, a2, Nat.reduceEqDiff, a3, a4, upd_eq] <;> rfl)
    · have k1 : ¬ (i : Int) < l.length := by omega
      simp -implicitDefEqProofs only [↓w_seq, ↓w_region, ne_eq, Int.reduceNeg, ↓ops_cons, ↓g_binOp, Nat.reduceLT, ev_tab, a5, a4, b_lss, k1, decide_false, ↓ops_nil, ↓w_cond, upd_eq, ↓w_skip, ↓w_block, ↓g_move, ↓g_assign, Nat.reduceEqDiff, not_false_eq_true, upd_ne, ↓g_indexAddr, Try.underlying22, a3, reduceCtorEq, a2, ↓g_load, ↓w_ret, retP_1, res_tmp, true_and, onS_some, ev_const, of_int, b_add, ↓w_exit, if_true, onB_false]
      refine ⟨-1, rfl, ⟨fun h => by omega, fun hm => ?_⟩⟩
      obtain ⟨j, j1, j2⟩ := mem_get hm
      exact absurd j2 (a0 j (by omega))
  · refine ⟨_, rfl, by omega, fun j hj => by omega, ?_, ?_, ?_, ?_⟩ <;> simp -implicitDefEqProofs only [ne_eq, reduceCtorEq, not_false_eq_true, upd_ne, par0, Nat.reduceEqDiff, par1, upd_eq, Int.cast_ofNat_Int] <;> rfl
theorem inLI {H : AHeap} {x : AV} {l : List Int} (v : Int) (hx : IsL H x .i64 l) (hl : l.length ≤ 1000000000) : Sound Try.prog 50 [x, .sc (.int .i64 v)] H (.sc (.bool (decide (v ∈ l)))) H := by
  refine Sound.run 9 [.tmp 4] Try.func50 rfl rfl rfl rfl (by simp) ?_
  obtain ⟨n, n1, n2⟩ := indexI v hx hl
  simp -implicitDefEqProofs only [↓w_seq, ↓w_region, ↓ops_cons, ↓g_assign, ↓ops_nil, ev_const, of_bool, ↓g_move, Nat.reduceLT, ev_tab, ne_eq, reduceCtorEq, not_false_eq_true, upd_ne, par0, Nat.reduceEqDiff, par1]
  refine call1S (by simp -implicitDefEqProofs only [List.map_cons, Nat.reduceLT, ev_tab, ne_eq, Nat.reduceEqDiff, not_false_eq_true, upd_ne, upd_eq, List.map_nil] <;> rfl) n1 ?_
  by_cases h : v ∈ l
  · have h2 := eq_true (n2.2 h)
    have hm : decide (v ∈ l) = true := decide_eq_true h
    simp -implicitDefEqProofs only [↓ops_cons, ↓g_binOp, Nat.reduceLT, ev_tab, upd_eq, ev_const, of_int, b_geq, h2, decide_true, ↓g_assign, ↓ops_nil, ↓w_ret, hm, ret_one, and_true, onS_some]
  · have h2 := eq_false (fun q => h (n2.1 q))
    have hm : decide (v ∈ l) = false := decide_eq_false h
    simp -implicitDefEqProofs only [↓ops_cons, ↓g_binOp, Nat.reduceLT, ev_tab, upd_eq, ev_const, of_int, b_geq, h2, decide_false, ↓g_assign, ↓ops_nil, ↓w_ret, hm, ret_one, and_true, onS_some]
theorem ovr_fm (a : AV) (cs : List AV) (y : AV) (ys : List AV) : overA (a :: cs) 0 (y :: ys) = y :: overA cs 0 ys := by simp [overA]
theorem ovr_fn (cs : List AV) : overA cs 0 [] = cs := by simp [overA]
/-- A flight. -/
def flt (x y : AV) (t : Int) : AV := .agg [x, y, .sc (.int .i64 t)]
theorem copyIntsI {H : AHeap} {x : AV} {l : List Int} (hx : IsL H x .i64 l) (hl : l.length ≤ 1000000000) : ∃ (q : Nat) (Z : AHeap), Sound Try.prog 68 [x] H (.sl q 0 l.length 1) Z ∧ Ext H Z ∧ H.length ≤ q ∧ Z[q]? = some ⟨ints .i64 l, true, true⟩ := by
  suffices h : ∃ v Z, Sound Try.prog 68 [x] H v Z ∧ ∃ q, v = .sl q 0 l.length 1 ∧ Ext H Z ∧ H.length ≤ q ∧ Z[q]? = some ⟨ints .i64 l, true, true⟩ by
    obtain ⟨v, Z, h1, q, rfl, h2⟩ := h
    exact ⟨q, Z, h1, h2⟩
  refine Sound.runP (args := [x]) 6 [.tmp 2] Try.func68 rfl rfl rfl rfl (by simp) (fun v Z => ∃ q, v = .sl q 0 l.length 1 ∧ Ext H Z ∧ H.length ≤ q ∧ Z[q]? = some ⟨ints .i64 l, true, true⟩) ?_
  have hsrc := fun Y => ((Ext.more H Y).isL hx).src
  have k1 : l.length * 8 ≤ 140737488355328 := by omega
  have k2 : l.length ≤ 140737488355328 := by omega
  simp -implicitDefEqProofs only [↓w_seq, ↓w_region, ↓ops_cons, ↓g_assign, ↓ops_nil, ev_const, ↓g_buildSlice, Try.underlying22, List.map_nil, bs3_0, ↓g_move, ↓g_append, Nat.reduceLT, ev_tab, ne_eq, reduceCtorEq, not_false_eq_true, upd_ne, par0, Nat.reduceEqDiff, upd_eq, ↓w_ret, retP_1, res_tmp, onS_some, alK_some, ints_one, apS22, hap_0, List.getElem?_cons_zero, hsrc, ap_ints, List.length_nil, Nat.le_refl, Nat.zero_add, k1, k2, and_self, List.length_append, List.length_cons, hkill_0, kill_0, List.take_zero, List.nil_append, List.append_assoc, List.cons_append, if_true, true_and]
  exact ⟨_, rfl, Ext.more _ _, by omega, hap_k _ _ 1⟩
theorem copyFlI {H : AHeap} {x y : AV} {a b : List Int} (t : Int) (hx : IsL H x .i64 a) (hy : IsL H y .i64 b) (ha : a.length ≤ 1000000000) (hb : b.length ≤ 1000000000) : ∃ (p q : Nat) (Z : AHeap), Sound Try.prog 56 [flt x y t] H (flt (.sl p 0 a.length 1) (.sl q 0 b.length 1) t) Z ∧ Ext H Z ∧ H.length ≤ p ∧ p < q ∧ Z[p]? = some ⟨ints .i64 a, true, true⟩ ∧ Z[q]? = some ⟨ints .i64 b, true, true⟩ := by
  suffices h : ∃ v Z, Sound Try.prog 56 [flt x y t] H v Z ∧ ∃ p q, v = flt (.sl p 0 a.length 1) (.sl q 0 b.length 1) t ∧ Ext H Z ∧ H.length ≤ p ∧ p < q ∧ Z[p]? = some ⟨ints .i64 a, true, true⟩ ∧ Z[q]? = some ⟨ints .i64 b, true, true⟩ by
    obtain ⟨v, Z, h1, p, q, rfl, h2⟩ := h
    exact ⟨p, q, Z, h1, h2⟩
  refine Sound.runP (args := [flt x y t]) 12 [.cell 2 32] Try.func56 rfl rfl rfl rfl (by simp) (fun v Z => ∃ p q, v = flt (.sl p 0 a.length 1) (.sl q 0 b.length 1) t ∧ Ext H Z ∧ H.length ≤ p ∧ p < q ∧ Z[p]? = some ⟨ints .i64 a, true, true⟩ ∧ Z[q]? = some ⟨ints .i64 b, true, true⟩) ?_
  have x1 := hx.one
  have y1 := hy.one
  obtain ⟨A, hA⟩ : ∃ A : Reg, A = ⟨[x, y, .sc (.int .i64 t)], true, true⟩ := ⟨_, rfl⟩
  obtain ⟨B, hB⟩ : ∃ B : Reg, B = ⟨[.sc (.slice none 0 0), .sc (.slice none 0 0), .sc (.int .i64 0)], true, true⟩ := ⟨_, rfl⟩
  have e0 := Ext.more H [A, B]
  have a0 := hap_0 H [A, B]
  have b0 := hap_k H [A, B] 1
  obtain ⟨p, Z1, p1, p2, p3, p4⟩ := copyIntsI (e0.isL hx) ha
  have a1 := p2.at a0
  obtain ⟨q, Z2, q1, q2, q3, q4⟩ := copyIntsI ((e0.trans p2).isL hy) hb
  have a2 := q2.at a1
  have b2 := q2.at (p2.at b0)
  have hp : p < Z1.length := at_lt p4
  have p3' : H.length + 2 ≤ p := by rw [List.length_append] at p3; exact p3
  subst hA hB
  unfold flt
  simp -implicitDefEqProofs only [↓w_seq, ↓w_region, ↓ops_cons, ↓g_box, Nat.reduceLT, ev_tab, par0, cells_agg, ↓g_alloc, zero32, Option.map_some, ↓ops_nil, alK_some, List.all_cons, one_nil, one_int, List.all_nil, Bool.and_self, true_and, x1, y1, List.length_append, List.length_cons, List.length_nil, Nat.zero_add, List.append_assoc, List.cons_append, List.nil_append]
  refine drawn [(1, 0), (4, 0), (4, 3), (7, 0), (7, 3), (7, 6)] follows (by kernel_rfl) (by kernel_rfl) ?_
  simp -implicitDefEqProofs only [↓dops_cons, ↓g_fieldAddrT, Nat.reduceLT, ev_tab, ne_eq, Nat.reduceEqDiff, not_false_eq_true, upd_ne, upd_eq, fadr32_0, Nat.zero_add, ↓g_load, onS_some, rd_def, tyOk22, agg22, cells22, hap_0, List.getElem?_cons_zero, rd_onec]
  refine call1S (by simp -implicitDefEqProofs only [List.map_cons, Nat.reduceLT, ev_tab, upd_eq, List.map_nil] <;> rfl) p1 ?_
  simp -implicitDefEqProofs only [↓dops_cons, ↓g_fieldAddrT, Nat.reduceLT, ev_tab, ne_eq, Nat.reduceEqDiff, not_false_eq_true, upd_ne, upd_eq, fadr32_1, Nat.zero_add, ↓g_load, onS_some, rd_def, tyOk22, agg22, cells22, a1, rd_onec, List.getElem?_cons_succ, List.getElem?_cons_zero]
  refine call1S (by simp -implicitDefEqProofs only [List.map_cons, Nat.reduceLT, ev_tab, upd_eq, List.map_nil] <;> rfl) q1 ?_
  simp -implicitDefEqProofs only [↓dops_cons, ↓g_fieldAddrT, Nat.reduceLT, ev_tab, ne_eq, Nat.reduceEqDiff, not_false_eq_true, upd_ne, upd_eq, fadr32_2, Nat.zero_add, ↓g_load, ↓g_buildV, List.map_cons, List.map_nil, cells_sl, ↓g_store, wr_def, tyOk32, cells32, b2, wr_c, List.length_cons, List.length_nil, Nat.reduceAdd, Nat.le_refl, true_and, ↓dops_p, ↓w_ret, retP_1, res_cell, rd_def, agg32, onS_ite, onS_some, tyOk3, agg3, cells3, a2, rd_onec, List.getElem?_cons_succ, List.getElem?_cons_zero, cells_int, bds32, cells_agg, List.all_cons, one_sl, one_int, List.all_nil, Bool.and_self, and_self, ovr_fm, ovr_fn]
  refine ⟨pairs_cons (same_H rfl) (pairs_cons (same_ld _ _ H.length 1 rfl rfl (a0.trans a1.symm)) (pairs_cons (same_H rfl) (pairs_cons (same_ld _ _ H.length 2 rfl rfl (a0.trans a2.symm)) (pairs_cons (same_ld _ _ H.length 2 rfl rfl (a1.trans a2.symm)) (pairs_cons (same_H rfl) pairs_nil))))), ?_⟩
  try simp -implicitDefEqProofs only [at_set (at_lt b2), rd_aggc, Nat.zero_add, List.length_cons, List.length_nil, Nat.reduceAdd, Nat.le_refl, List.drop_zero, List.take_succ_cons, List.take_zero, if_true, onS_some]
  exact ⟨p, q, rfl, ((e0.trans p2).trans q2).set (by omega) _, by omega, by omega, (List.getElem?_set_ne (by omega)).trans (q2.at p4), (List.getElem?_set_ne (by omega)).trans q4⟩
end Go.Proofs.Ytcjjcpdfnndenaa.Sim
namespace Go.Proofs.Ytcjjcpdfnndenaa.Sim
open Go
set_option maxRecDepth 100000
set_option maxHeartbeats 40000000
set_option linter.unusedSimpArgs false
set_option linter.unusedVariables false
theorem hap_00 (H L M : AHeap) (h : L[0]? = M[0]?) : (H ++ L)[H.length]? = (H ++ M)[H.length]? := (hap_0 H L).trans (h.trans (hap_0 H M).symm)
theorem copyFlS {H : AHeap} {x y : AV} {a b : List Int} (t : Int) (hx : IsL H x .i64 a) (hy : IsL H y .i64 b) (ha : a.length ≤ 1000000000) (hb : b.length ≤ 1000000000) : ∃ (p q : Nat) (Z : AHeap), Sound Try.prog 55 [flt x y t] H (flt (.sl p 0 a.length 1) (.sl q 0 b.length 1) t) Z ∧ Ext H Z ∧ H.length ≤ p ∧ p < q ∧ Z[p]? = some ⟨ints .i64 a, true, true⟩ ∧ Z[q]? = some ⟨ints .i64 b, true, true⟩ := by
  suffices h : ∃ v Z, Sound Try.prog 55 [flt x y t] H v Z ∧ ∃ p q, v = flt (.sl p 0 a.length 1) (.sl q 0 b.length 1) t ∧ Ext H Z ∧ H.length ≤ p ∧ p < q ∧ Z[p]? = some ⟨ints .i64 a, true, true⟩ ∧ Z[q]? = some ⟨ints .i64 b, true, true⟩ by
    obtain ⟨v, Z, h1, p, q, rfl, h2⟩ := h
    exact ⟨p, q, Z, h1, h2⟩
  unfold flt
  refine Sound.runP (args := [.agg [x, y, .sc (.int .i64 t)]]) 14 [.cell 2 32] Try.func55 rfl rfl rfl rfl (by simp) (fun v Z => ∃ p q, v = .agg [.sl p 0 a.length 1, .sl q 0 b.length 1, .sc (.int .i64 t)] ∧ Ext H Z ∧ H.length ≤ p ∧ p < q ∧ Z[p]? = some ⟨ints .i64 a, true, true⟩ ∧ Z[q]? = some ⟨ints .i64 b, true, true⟩) ?_
  have x1 := hx.one
  have y1 := hy.one
  have hsx := fun Y => ((Ext.more H Y).isL hx).src
  have hsy := fun Y => ((Ext.more H Y).isL hy).src
  have k1 : a.length * 8 ≤ 140737488355328 := by omega
  have k2 : a.length ≤ 140737488355328 := by omega
  have k3 : b.length * 8 ≤ 140737488355328 := by omega
  have k4 : b.length ≤ 140737488355328 := by omega
  simp -implicitDefEqProofs only [↓w_seq, ↓w_region, ↓ops_cons, ↓g_box, Nat.reduceLT, ev_tab, par0, cells_agg, ↓g_alloc, zero32, Option.map_some, ↓ops_nil, alK_some, List.all_cons, one_nil, one_int, List.all_nil, Bool.and_self, true_and, x1, y1, List.length_append, List.length_cons, List.length_nil, Nat.zero_add, List.append_assoc, List.cons_append, List.nil_append]
  refine drawn [(2, 0), (6, 0), (6, 4), (9, 0), (9, 4), (9, 8)] follows (by kernel_rfl) (by kernel_rfl) ?_
  simp -implicitDefEqProofs only [↓dops_cons, ↓g_buildSlice, Try.underlying22, List.map_nil, bs3_0, ↓g_fieldAddrT, Nat.reduceLT, ev_tab, ne_eq, Nat.reduceEqDiff, not_false_eq_true, upd_ne, upd_eq, fadr32_0, Nat.zero_add, ↓g_load, ↓g_append, fadr32_1, fadr32_2, ↓g_buildV, List.map_cons, ↓g_store, wr_def, tyOk32, cells32, ↓dops_p, ↓w_ret, retP_1, res_cell, rd_def, agg32, onS_some, tyOk3, agg3, cells3, tyOk22, agg22, cells22, alK_some, ints_one, apS22, hap_0, List.getElem?_cons_zero, true_and, List.append_assoc, List.cons_append, List.nil_append, rd_onec, List.length_append, List.length_cons, List.length_nil, Nat.reduceAdd, hap_k, List.getElem?_cons_succ, hsx, ap_ints, Nat.le_refl, k1, k2, and_self, hkill_k, kill_s, kill_0, List.take_zero, if_true, cells_sl, hsy, k3, k4, wr_c, hset_k, List.set_cons_succ, List.set_cons_zero, onS_ite, cells_int, bds32, cells_agg, List.all_cons, one_sl, one_int, List.all_nil, Bool.and_self, ovr_fm, ovr_fn, rd_aggc, List.drop_zero, List.take_succ_cons]
  refine ⟨pairs_cons (same_ld _ _ H.length 0 rfl rfl ?_) (pairs_cons (same_ld _ _ H.length 1 rfl rfl ?_) (pairs_cons (same_ld _ _ H.length 1 rfl rfl ?_) (pairs_cons (same_ld _ _ H.length 2 rfl rfl ?_) (pairs_cons (same_ld _ _ H.length 2 rfl rfl ?_) (pairs_cons (same_ld _ _ H.length 2 rfl rfl ?_) pairs_nil))))), ?_⟩
  iterate 6 exact hap_00 _ _ _ rfl
  try simp -implicitDefEqProofs only [↓w_seq, ↓w_skip, ↓w_ret, ↓w_exit, ↓w_block, ↓w_cond, ↓w_region, ↓ops_nil, ↓ops_cons, ↓dops_0, ↓dops_p, ↓dops_cons, ↓g_move, ↓g_assign, ↓g_binOp, ↓g_unOp, ↓g_pick, ↓g_len, ↓g_index, ↓g_indexAddr, ↓g_slice, ↓g_convert, ↓g_load, ↓g_store, ↓g_extract, ↓g_nilCheck, ↓g_fieldT, ↓g_fieldAddrT, of_agg, rd_aggc, rd_onec, wr_c, cells_int, cells_str, cells_bool, cells_nil, cells_sl, cells_ptr, cells_agg, one_int, one_str, one_bool, one_nil, one_sl, one_ptr, over_0, over_s, List.all_cons, List.all_nil, Bool.and_true, Bool.and_self, List.getElem?_nil, List.drop_succ_cons, List.drop_nil, ↓g_guard_t, ↓g_guard_f, ↓g_alloc, ↓g_box, ↓g_buildSlice, ↓g_makeSlice, ↓g_buildV, rdA, wrA, ints_one, List.length_replicate, bools_one, strs_one, rd_bools, rd_strs, wr_bools, wr_strs, at_bools, at_strs, ap_bools, ap_boolsN, ap_strs, ap_strsN, ↓g_append, src_sl, src_nil, src_str, ap_ints, ap_intsN, kill_len, kill_0, kill_s, bnd_none, bnd_int, cut_str, cutS_some, cut_sl, cutL_some, bits_i64, bits_u32, bits_u8, List.getD_cons_zero, List.getD_cons_succ, at_end, at_a, at_b, yielded_tab, dstAt_0, dstAt_s, ybv_some, boolOf_b, ext_0, ext_1, ext_2, ext_3, alK_some, ev_tab, ev_const, upd_eq, upd_ne, par0, par1, par2, par3, par4, par5, of_int, of_str, of_bool, len_str, len_arr, len_sl, idx_str, adr_sl, adr_arr, c_int, c_str, c_bytes, c_text, pick_b, onS_some, onS_ite, onS_not, b_add, b_sub, b_mul, b_and, b_or, b_xor, b_eql, b_neq, b_lss, b_leq, b_gtr, b_geq, b_shl, b_shr, b_quo, b_rem, t_add, t_eql, t_neq, v_eql, v_neq, b_andNot, u_not, onB_true, onB_false, onB_dec, onB_not, ret_cell, ret_ct, retP_0, retP_1, retP_2, retP_3, res_tmp, res_cell, ret_one, ret_two, ret_three, ret_none, List.set_set, if_true, if_false, ite_true, ite_false, List.map_cons, List.map_nil, Option.map_some, Option.map_none, List.toList_toArray, rd_def, rd_ints, wr_def, wr_ints, at_def, at_ints, bytes_ints, bytesA_ints, ints_set, nums_len, List.length_nil, List.length_cons, List.length_set, List.length_append, List.nil_append, List.cons_append, List.getElem?_cons_zero, List.getElem?_cons_succ, List.set_cons_zero, List.set_cons_succ, List.drop_zero, List.take_succ_cons, List.take_zero, List.take_length, Option.bind_some, true_and, and_true, Nat.zero_add, Nat.mul_one, Int.toNat_zero, Int.reduceToNat, Int.reduceAdd, Int.reduceSub, Int.reduceMul, Int.reduceNeg, Nat.reduceAdd, Nat.reduceSub, Nat.reduceMul, Nat.reducePow, Nat.min_eq_left, Int.reducePow, Nat.le_refl, Int.cast_ofNat_Int, Nat.reduceLT, Nat.reduceLeDiff, Nat.reduceEqDiff, Int.reduceLE, Int.reduceLT, Int.reduceEq, ne_eq, not_false_eq_true, not_true_eq_false, reduceCtorEq, decide_true, decide_false, and_self, and_false, false_and, Bool.not_true, Bool.not_false, Try.underlying0, Try.underlying1, Try.underlying2, Try.underlying3, Try.underlying4, Try.underlying5, Try.underlying6, Try.underlying7, Try.underlying8, Try.underlying9, Try.underlying10, Try.underlying11, Try.underlying12, Try.underlying13, Try.underlying14, Try.underlying15, Try.underlying16, Try.underlying17, Try.underlying18, Try.underlying19, Try.underlying20, Try.underlying21, Try.underlying22, Try.underlying23, Try.underlying24, Try.underlying25, Try.underlying26, Try.underlying27, Try.underlying28, Try.underlying29, Try.underlying30, Try.underlying31, Try.underlying32, Try.underlying33, Try.underlying34, Try.underlying35, Try.underlying36, Try.underlying37, Try.underlying38, Try.underlying39, Try.underlying40, Try.underlying41, Try.underlying42, Try.underlying43, Try.underlying44, Try.underlying45, Try.underlying46, Try.underlying47, Try.underlying48, Try.underlying49, Try.underlying50, Try.underlying51, Try.underlying52, Try.underlying53, Try.underlying54, Try.underlying55, Try.underlying56, Try.underlying57, Try.underlying58, Try.underlying59, Try.underlying60, Try.underlying61, Try.underlying62, Try.underlying63, Try.underlying64, Try.underlying65, Try.underlying66, Try.underlying67, Try.underlying68, Try.underlying69, Try.underlying70, Try.underlying71, Try.underlying72, Try.underlying73, Try.underlying74, Try.underlying75, Try.underlying76, Try.underlying77, Try.underlying78, Try.underlying79, Try.underlying80, Try.underlying81, Try.underlying82, Try.underlying83, Try.underlying84, Try.underlying85, Try.underlying86, Try.underlying87, Try.underlying88, Try.underlying89, Try.underlying90, Try.underlying91, Try.underlying92, Try.underlying93, Try.underlying94, Try.underlying95, Try.underlying96, Try.underlying97, Try.underlying98, Try.underlying99, Try.underlying100, Try.underlying101, Try.underlying102, Try.underlying103, Try.underlying104, Try.underlying105, Try.underlying106, Try.underlying107, Try.underlying108, Try.underlying109, Try.underlying110, Try.underlying111, Try.underlying112, Try.underlying113, Try.underlying114, tyOk0, agg0, cells0, tyOk1, agg1, cells1, tyOk2, agg2, cells2, zero2, info2, mk2, bs2_0, bs2_1, bs2_2, bs2_3, bs2_4, bs2_5, bs2_6, bs2_7, bs2_8, bs2_10, bs2_11, bs2_12, bs2_13, tyOk3, agg3, cells3, zero3, apS22, apN22, info3, mk3, bs3_0, bs3_1, bs3_2, bs3_3, bs3_4, bs3_5, bs3_6, bs3_7, bs3_8, bs3_10, bs3_11, bs3_12, bs3_13, tyOk4, agg4, cells4, zero4, info4, mk4, bs4_0, bs4_1, bs4_2, tyOk5, agg5, cells5, isU5, zero5, apS46, apN46, apStr46, info5, mk5, bs5_0, bs5_1, bs5_2, bs5_3, bs5_4, bs5_5, bs5_6, bs5_7, bs5_8, bs5_10, bs5_11, bs5_12, bs5_13, tyOk6, agg6, cells6, isU6, zero6, info6, mk6, bs6_0, bs6_1, bs6_2, bs6_3, bs6_4, bs6_5, bs6_6, bs6_7, bs6_8, bs6_10, bs6_11, bs6_12, bs6_13, tyOk7, agg7, cells7, zero7, fadr7_0, fld7_0, fadr7_1, fld7_1, fadr7_2, fld7_2, fadr7_3, fld7_3, bz7, bds7, tyOk8, agg8, cells8, zero8, fadr8_0, fld8_0, fadr8_1, fld8_1, fadr8_2, fld8_2, fadr8_3, fld8_3, bz8, bds8, tyOk9, agg9, cells9, zero9, info9, bs9_0, bs9_1, bs9_2, bs9_3, bs9_4, bs9_5, bs9_6, bs9_8, bs9_9, bs9_10, tyOk10, agg10, cells10, zero10, info10, bs10_0, bs10_1, bs10_2, bs10_3, bs10_4, bs10_5, bs10_6, bs10_8, bs10_9, bs10_10, tyOk11, agg11, cells11, zero11, info11, bs11_0, bs11_1, bs11_2, bs11_3, bs11_4, bs11_5, bs11_6, bs11_8, bs11_9, bs11_10, tyOk12, agg12, cells12, zero12, info12, mk12, bs12_0, bs12_1, bs12_2, bs12_3, bs12_4, bs12_5, bs12_6, bs12_7, bs12_8, bs12_10, bs12_11, bs12_12, bs12_13, tyOk13, agg13, cells13, zero13, fadr13_0, fld13_0, fadr13_1, fld13_1, bz13, bds13, tyOk14, agg14, cells14, zero14, fadr14_0, fld14_0, fadr14_1, fld14_1, bz14, bds14, tyOk15, agg15, cells15, zero15, tyOk16, agg16, cells16, zero16, tyOk17, agg17, cells17, zero17, tyOk18, agg18, cells18, zero18, fadr18_0, fld18_0, bz18, bds18, tyOk19, agg19, cells19, zero19, fadr19_0, fld19_0, bz19, bds19, tyOk20, agg20, cells20, tyOk21, agg21, cells21, zero21, info21, mk21, bs21_0, bs21_1, bs21_2, bs21_3, bs21_4, bs21_5, bs21_6, bs21_7, bs21_8, bs21_10, bs21_11, bs21_12, bs21_13, tyOk22, agg22, cells22, zero22, tyOk23, agg23, cells23, tyOk24, agg24, cells24, tyOk25, agg25, cells25, tyOk26, agg26, cells26, tyOk27, agg27, cells27, tyOk28, agg28, cells28, zero28, fadr28_0, fld28_0, fadr28_1, fld28_1, fadr28_2, fld28_2, bz28, bds28, tyOk29, agg29, cells29, zero29, fadr29_0, fld29_0, fadr29_1, fld29_1, fadr29_2, fld29_2, bz29, bds29, tyOk30, agg30, cells30, tyOk31, agg31, cells31, tyOk32, agg32, cells32, zero32, fadr32_0, fld32_0, fadr32_1, fld32_1, fadr32_2, fld32_2, bz32, bds32, tyOk33, agg33, cells33, tyOk34, agg34, cells34, tyOk35, agg35, cells35, tyOk36, agg36, cells36, tyOk37, agg37, cells37, tyOk38, agg38, cells38, tyOk39, agg39, cells39, tyOk40, agg40, cells40, tyOk41, agg41, cells41, tyOk42, agg42, cells42, tyOk43, agg43, cells43, tyOk44, agg44, cells44, tyOk45, agg45, cells45, tyOk46, agg46, cells46, zero46, tyOk47, agg47, cells47, tyOk48, agg48, cells48, tyOk49, agg49, cells49, tyOk50, agg50, cells50, tyOk51, agg51, cells51, tyOk52, agg52, cells52, tyOk53, agg53, cells53, tyOk54, agg54, cells54, tyOk55, agg55, cells55, tyOk56, agg56, cells56, tyOk57, agg57, cells57, tyOk58, agg58, cells58, tyOk59, agg59, cells59, tyOk60, agg60, cells60, tyOk61, agg61, cells61, zero61, tyOk62, agg62, cells62, tyOk63, agg63, cells63, tyOk64, agg64, cells64, tyOk65, agg65, cells65, tyOk66, agg66, cells66, tyOk67, agg67, cells67, tyOk68, agg68, cells68, tyOk69, agg69, cells69, tyOk70, agg70, cells70, zero70, fadr70_0, fld70_0, fadr70_1, fld70_1, fadr70_2, fld70_2, bz70, bds70, tyOk71, agg71, cells71, zero71, fadr71_0, fld71_0, fadr71_1, fld71_1, fadr71_2, fld71_2, bz71, bds71, tyOk72, agg72, cells72, zero72, info72, mk72, bs72_0, bs72_1, bs72_2, bs72_3, bs72_4, bs72_5, bs72_6, bs72_7, bs72_8, bs72_10, bs72_11, bs72_12, bs72_13, tyOk73, agg73, cells73, tyOk74, agg74, cells74, tyOk75, agg75, cells75, tyOk76, agg76, cells76, tyOk77, agg77, cells77, zero77, info77, mk77, bs77_0, bs77_1, bs77_2, bs77_3, bs77_4, bs77_5, bs77_6, bs77_7, bs77_8, bs77_10, bs77_11, bs77_12, bs77_13, tyOk78, agg78, cells78, tyOk79, agg79, cells79, tyOk80, agg80, cells80, tyOk81, agg81, cells81, tyOk82, agg82, cells82, tyOk83, agg83, cells83, tyOk84, agg84, cells84, tyOk85, agg85, cells85, tyOk86, agg86, cells86, zero86, info86, mk86, bs86_0, bs86_1, bs86_2, bs86_3, bs86_4, bs86_5, bs86_6, bs86_7, bs86_8, bs86_10, bs86_11, bs86_12, bs86_13, tyOk87, agg87, cells87, tyOk88, agg88, cells88, zero88, info88, mk88, bs88_0, bs88_1, bs88_2, bs88_3, bs88_4, bs88_5, bs88_6, bs88_7, bs88_8, bs88_10, bs88_11, bs88_12, bs88_13, tyOk89, agg89, cells89, zero89, info89, mk89, bs89_0, bs89_1, bs89_2, bs89_3, bs89_4, bs89_5, bs89_6, bs89_7, bs89_8, bs89_10, bs89_11, bs89_12, bs89_13, tyOk90, agg90, cells90, tyOk91, agg91, cells91, tyOk92, agg92, cells92, tyOk93, agg93, cells93, zero93, tyOk94, agg94, cells94, tyOk95, agg95, cells95, tyOk96, agg96, cells96, zero96, tyOk97, agg97, cells97, tyOk98, agg98, cells98, tyOk99, agg99, cells99, tyOk100, agg100, cells100, zero100, fadr100_0, fld100_0, fadr100_1, fld100_1, fadr100_2, fld100_2, fadr100_3, fld100_3, bz100, bds100, tyOk101, agg101, cells101, zero101, fadr101_0, fld101_0, fadr101_1, fld101_1, fadr101_2, fld101_2, fadr101_3, fld101_3, bz101, bds101, tyOk102, agg102, cells102, zero102, tyOk103, agg103, cells103, zero103, tyOk104, agg104, cells104, zero104, tyOk105, agg105, cells105, tyOk106, agg106, cells106, isU106, zero106, info106, mk106, bs106_0, bs106_1, bs106_2, bs106_3, bs106_4, bs106_5, bs106_6, bs106_7, bs106_8, bs106_10, bs106_11, bs106_12, bs106_13, tyOk107, agg107, cells107, isU107, zero107, info107, mk107, bs107_0, bs107_1, bs107_2, bs107_3, bs107_4, bs107_5, bs107_6, bs107_7, bs107_8, bs107_10, bs107_11, bs107_12, bs107_13, tyOk108, agg108, cells108, tyOk109, agg109, cells109, zero109, tyOk110, agg110, cells110, zero110, info110, mk110, bs110_0, bs110_1, bs110_2, bs110_3, bs110_4, bs110_5, bs110_6, bs110_7, bs110_8, bs110_10, bs110_11, bs110_12, bs110_13, tyOk111, agg111, cells111, zero111, info111, mk111, bs111_0, bs111_1, bs111_2, bs111_3, bs111_4, bs111_5, bs111_6, bs111_7, bs111_8, bs111_10, bs111_11, bs111_12, bs111_13, tyOk112, agg112, cells112, fadr112_0, fld112_0, fadr112_1, fld112_1, fadr112_2, fld112_2, fadr112_3, fld112_3, fadr112_4, fld112_4, fadr112_5, fld112_5, fadr112_6, fld112_6, fadr112_7, fld112_7, fadr112_8, fld112_8, fadr112_9, fld112_9, fadr112_10, fld112_10, tyOk113, agg113, cells113, fadr113_0, fld113_0, fadr113_1, fld113_1, fadr113_2, fld113_2, fadr113_3, fld113_3, fadr113_4, fld113_4, fadr113_5, fld113_5, fadr113_6, fld113_6, fadr113_7, fld113_7, fadr113_8, fld113_8, fadr113_9, fld113_9, fadr113_10, fld113_10, tyOk114, agg114, cells114, zero114, x1, y1, List.append_assoc, hap_0, hap_k, hset_0, hset_k, hkill_0, hkill_k, Nat.add_assoc, ovr_fm, ovr_fn]
  exact ⟨_, _, rfl, Ext.more _ _, by omega, by omega, hap_k _ _ 3, hap_k _ _ 5⟩
def leftL (s g : List Int) : List Int := s.filter fun v => decide (¬ v ∈ g)
theorem leftL_s (s g : List Int) (i : Nat) (h : i < s.length) : leftL (s.take (i + 1)) g = if s.getD i 0 ∈ g then leftL (s.take i) g else leftL (s.take i) g ++ [s.getD i 0] := by
  rw [take_s s i h, leftL, leftL, List.filter_append]
  by_cases hm : s.getD i 0 ∈ g
  · rw [if_pos hm]
    simp only [List.filter_cons, hm, not_true_eq_false, decide_false, List.filter_nil, Bool.false_eq_true, if_false, List.append_nil]
  · rw [if_neg hm]
    simp only [List.filter_cons, hm, not_false_eq_true, decide_true, List.filter_nil, if_true]
theorem leftL_len (s g : List Int) : (leftL s g).length ≤ s.length := List.length_filter_le _ _
theorem leftI {H : AHeap} {x y : AV} {s g : List Int} (t : Int) (hx : IsL H x .i64 s) (hy : IsL H y .i64 g) (hs : s.length ≤ 1000000000) (hg : g.length ≤ 1000000000) : ∃ (q : Nat) (Z : AHeap), Sound Try.prog 19 [flt x y t] H (.sl q 0 (leftL s g).length 1) Z ∧ Ext H Z ∧ H.length ≤ q ∧ Z[q]? = some ⟨ints .i64 (leftL s g), true, true⟩ := by
  suffices h : ∃ v Z, Sound Try.prog 19 [flt x y t] H v Z ∧ ∃ q, v = .sl q 0 (leftL s g).length 1 ∧ Ext H Z ∧ H.length ≤ q ∧ Z[q]? = some ⟨ints .i64 (leftL s g), true, true⟩ by
    obtain ⟨v, Z, h1, q, rfl, h2⟩ := h
    exact ⟨q, Z, h1, h2⟩
  unfold flt
  refine Sound.runP (args := [.agg [x, y, .sc (.int .i64 t)]]) 25 [.tmp 2] Try.func19 rfl rfl rfl rfl (by simp) (fun v Z => ∃ q, v = .sl q 0 (leftL s g).length 1 ∧ Ext H Z ∧ H.length ≤ q ∧ Z[q]? = some ⟨ints .i64 (leftL s g), true, true⟩) ?_
  have x1 := hx.one
  have y1 := hy.one
  have lx := fun e => hx.len e
  obtain ⟨A, hA⟩ : ∃ A : Reg, A = ⟨[x, y, .sc (.int .i64 t)], true, true⟩ := ⟨_, rfl⟩
  have e0 := Ext.more H [A]
  have a0 := hap_0 H [A]
  simp -implicitDefEqProofs only [↓w_seq, ↓w_region, ↓ops_cons, ↓g_box, Nat.reduceLT, ev_tab, par0, cells_agg, ↓g_assign, ↓ops_nil, ev_const, ↓g_buildSlice, Try.underlying22, List.map_nil, bs3_0, upd_eq, ↓g_fieldAddrT, ne_eq, Nat.reduceEqDiff, not_false_eq_true, upd_ne, ↓g_load, ↓g_len, ↓g_move, ↓w_block, of_int, alK_some, ints_one, true_and, List.all_cons, x1, y1, one_int, List.all_nil, Bool.and_self, fadr32_0, Nat.zero_add, List.append_assoc, List.cons_append, List.nil_append, List.length_append, List.length_cons, List.length_nil, onS_some, rd_def, tyOk22, agg22, cells22, hap_0, List.getElem?_cons_zero, rd_onec, lx]
  rw [← hA]
  refine w_loop (ι := Nat) (fun i st => ∃ (T : Nat → AV) (Z : AHeap) (q : Nat), st = ⟨tab 25 T, Z⟩ ∧ i ≤ s.length ∧ Ext (H ++ [A]) Z ∧ H.length + 1 ≤ q ∧ Z[q]? = some ⟨ints .i64 (leftL (s.take i) g), true, true⟩ ∧ T 1 = .ptr H.length 0 ∧ T 3 = .sl q 0 (leftL (s.take i) g).length 1 ∧ T 8 = x ∧ T 9 = .sc (.int .i64 s.length) ∧ T 10 = .sc (.int .i64 i)) (fun i => s.length - i) ?_ (i := 0) ?_
  · rintro i st ⟨T, Z, q, rfl, a1, ez, hq, a2, a3, a4, a5, a6, a7⟩
    by_cases h : i < s.length
    · have k1 : (i : Int) < s.length := by omega
      have k2 : (0 : Int) ≤ i := by omega
      have e1 : IntKind.i64.wrap ((i : Int) + 1) = i + 1 := w64 (by omega) (by omega)
      have hA2 : Z[H.length]? = some ⟨[x, y, .sc (.int .i64 t)], true, true⟩ := by rw [← hA]; exact ez.at a0
      obtain ⟨r, o, hxr, hr⟩ := ((e0.trans ez).isL hx).get (i := i) h
      have hc := inLI (s.getD i 0) ((e0.trans ez).isL hy) hg
      have hll := leftL_len (s.take i) g
      have htl : (s.take i).length = i := by rw [List.length_take]; omega
      have hls := leftL_s s g i h
      generalize leftL (s.take i) g = B at *
      have ql := at_lt a2
      have hq2 : ∀ g : Reg, (Z ++ [g])[q]? = some ⟨ints .i64 B, true, true⟩ := fun g => (at_more _ _ _ ql).trans a2
      have b1 : (B.length + 1) * 8 ≤ 140737488355328 := by omega
      have b2 : B.length + 1 ≤ 140737488355328 := by omega
      simp -implicitDefEqProofs only [↓w_seq, ↓w_region, hxr, ↓ops_cons, ↓g_binOp, Nat.reduceLT, ev_tab, a7, a6, b_lss, k1, decide_true, ↓ops_nil, ↓w_cond, upd_eq, ↓w_skip, ↓w_block, ↓g_indexAddr, Try.underlying22, ne_eq, Nat.reduceEqDiff, not_false_eq_true, upd_ne, a5, adr_sl, k2, cells3, tyOk3, and_self, Int.toNat_natCast, Nat.mul_one, Nat.zero_add, if_true, ↓g_load, ↓g_assign, ↓g_fieldAddrT, a3, fadr32_1, ↓g_move, onS_some, rd_def, tyOk22, agg22, cells22, hA2, rd_onec, List.getElem?_cons_succ, List.getElem?_cons_zero, agg3, hr, rd_ints, h, ↓w_exit, ↓w_ret, a4, retP_1, res_tmp, onB_true]
      refine call1S (by simp -implicitDefEqProofs only [List.map_cons, Nat.reduceLT, ev_tab, ne_eq, Nat.reduceEqDiff, not_false_eq_true, upd_ne, upd_eq, List.map_nil] <;> rfl) hc ?_
      by_cases hm : s.getD i 0 ∈ g
      · rw [if_pos hm] at hls
        rw [decide_eq_true hm]
        simp -implicitDefEqProofs only [↓ops_cons, ↓g_unOp, Nat.reduceLT, ev_tab, upd_eq, u_not, Bool.not_true, Option.map_some, ↓ops_nil, ↓w_cond, ↓w_region, ↓g_move, ↓g_buildSlice, Try.underlying22, ne_eq, Nat.reduceEqDiff, not_false_eq_true, upd_ne, a4, List.map_cons, List.map_nil, bs3_1, ↓g_append, apS22, ↓g_assign, ↓g_binOp, a7, ev_const, of_int, b_add, e1, onS_some, alK_some, ints_one, src_sl, at_end, at_ints, Nat.zero_add, List.length_cons, List.length_nil, Nat.le_refl, List.drop_zero, List.take_succ_cons, List.take_zero, if_true, true_and, ↓w_skip, onB_false]
        refine ⟨i + 1, by omega, _, _, q, rfl, by omega, ez, hq, by rw [hls]; exact a2, ?_, ?_, ?_, ?_, ?_⟩ <;> simp -implicitDefEqProofs only [ne_eq, Nat.reduceEqDiff, not_false_eq_true, upd_ne, a3, a4, hls, a5, hxr, a6, upd_eq] <;> rfl
      · rw [if_neg hm] at hls
        rw [decide_eq_false hm]
        simp -implicitDefEqProofs only [↓ops_cons, ↓g_unOp, Nat.reduceLT, ev_tab, upd_eq, u_not, Bool.not_false, Option.map_some, ↓ops_nil, ↓w_cond, ↓w_region, ↓g_move, ↓g_buildSlice, Try.underlying22, ne_eq, Nat.reduceEqDiff, not_false_eq_true, upd_ne, a4, List.map_cons, List.map_nil, bs3_1, ↓g_append, apS22, ↓g_assign, ↓g_binOp, a7, ev_const, of_int, b_add, e1, onS_some, alK_some, ints_one, hq2, src_sl, at_end, at_ints, Nat.zero_add, List.length_cons, List.length_nil, Nat.le_refl, List.drop_zero, List.take_succ_cons, List.take_zero, if_true, ap_ints, b1, b2, and_self, List.length_append, List.take_length, true_and, ↓w_skip, onB_true]
        refine ⟨i + 1, by omega, _, _, Z.length + 1, rfl, by omega, (((ez.add _).kill (by rw [List.length_append]; exact hq)).add _), ?_, ?_, ?_, ?_, ?_, ?_, ?_⟩
        · have := ez.1
          rw [List.length_append] at this
          simp at this
          omega
        · have := at_end (killReg (Z ++ [⟨ints .i64 [s.getD i 0], true, true⟩]) q) ⟨ints .i64 (B ++ [s.getD i 0]), true, true⟩
          rw [hls]
          rwa [kill_len, List.length_append, List.length_singleton] at this
        all_goals (simp -implicitDefEqProofs only [ne_eq, Nat.reduceEqDiff, not_false_eq_true, upd_ne, a3, upd_eq, hls, List.length_append, List.length_cons, List.length_nil, Nat.zero_add, a5, hxr, a6] <;> rfl)
    · have k1 : ¬ (i : Int) < s.length := by omega
      have hi : s.take i = s := List.take_of_length_le (by omega)
      rw [hi] at a2 a4
      simp -implicitDefEqProofs only [↓w_seq, ↓w_region, ↓ops_cons, ↓g_binOp, Nat.reduceLT, ev_tab, a7, a6, b_lss, k1, decide_false, ↓ops_nil, ↓w_cond, upd_eq, ↓w_skip, ↓w_block, ↓g_indexAddr, Try.underlying22, ne_eq, Nat.reduceEqDiff, not_false_eq_true, upd_ne, a5, ↓g_load, ↓g_assign, ↓g_fieldAddrT, a3, fadr32_1, Nat.zero_add, ↓g_move, onS_some, rd_def, tyOk22, agg22, cells22, ↓w_exit, ↓w_ret, a4, retP_1, res_tmp, if_true, onB_false]
      exact ⟨q, rfl, e0.trans ez, by omega, a2⟩
  · refine ⟨_, _, H.length + 1, rfl, by omega, (by simpa only [List.append_assoc, List.cons_append, List.nil_append] using Ext.more (H ++ [A]) [⟨ints .i64 [], true, true⟩]), Nat.le_refl _, ?_, ?_, ?_, ?_, ?_, ?_⟩
    · exact hap_k _ _ 1
    all_goals (simp -implicitDefEqProofs only [ne_eq, Nat.reduceEqDiff, not_false_eq_true, upd_ne, upd_eq, List.take_zero, Int.cast_ofNat_Int] <;> rfl)
theorem leftS {H : AHeap} {x y : AV} {s g : List Int} (t : Int) (hx : IsL H x .i64 s) (hy : IsL H y .i64 g) (hs : s.length ≤ 1000000000) (hg : g.length ≤ 1000000000) : ∃ (q : Nat) (Z : AHeap), Sound Try.prog 17 [flt x y t] H (.sl q 0 (leftL s g).length 1) Z ∧ Ext H Z ∧ H.length ≤ q ∧ Z[q]? = some ⟨ints .i64 (leftL s g), true, true⟩ := by
  suffices h : ∃ v Z, Sound Try.prog 17 [flt x y t] H v Z ∧ ∃ q, v = .sl q 0 (leftL s g).length 1 ∧ Ext H Z ∧ H.length ≤ q ∧ Z[q]? = some ⟨ints .i64 (leftL s g), true, true⟩ by
    obtain ⟨v, Z, h1, q, rfl, h2⟩ := h
    exact ⟨q, Z, h1, h2⟩
  unfold flt
  refine Sound.runP (args := [.agg [x, y, .sc (.int .i64 t)]]) 31 [.tmp 2] Try.func17 rfl rfl rfl rfl (by simp) (fun v Z => ∃ q, v = .sl q 0 (leftL s g).length 1 ∧ Ext H Z ∧ H.length ≤ q ∧ Z[q]? = some ⟨ints .i64 (leftL s g), true, true⟩) ?_
  have x1 := hx.one
  have y1 := hy.one
  have lx := fun e => hx.len e
  obtain ⟨A, hA⟩ : ∃ A : Reg, A = ⟨[x, y, .sc (.int .i64 t)], true, true⟩ := ⟨_, rfl⟩
  have e0 := Ext.more H [A]
  have a0 := hap_0 H [A]
  simp -implicitDefEqProofs only [↓w_seq, ↓w_region, ↓ops_cons, ↓g_box, Nat.reduceLT, ev_tab, par0, cells_agg, ↓g_assign, ↓ops_nil, ev_const, ↓g_buildSlice, Try.underlying22, List.map_nil, bs3_0, upd_eq, ↓w_block, of_int, alK_some, ints_one, true_and, List.all_cons, x1, y1, one_int, List.all_nil, Bool.and_self, List.length_append, List.length_cons, List.length_nil, Nat.zero_add, List.append_assoc, List.cons_append, List.nil_append]
  rw [← hA]
  refine w_loop (ι := Nat) (fun i st => ∃ (T : Nat → AV) (Z : AHeap) (q : Nat), st = ⟨tab 31 T, Z⟩ ∧ i ≤ s.length ∧ Ext (H ++ [A]) Z ∧ H.length + 1 ≤ q ∧ Z[q]? = some ⟨ints .i64 (leftL (s.take i) g), true, true⟩ ∧ T 1 = .ptr H.length 0 ∧ T 3 = .sl q 0 (leftL (s.take i) g).length 1 ∧ T 4 = .sc (.int .i64 i)) (fun i => s.length - i) ?_ (i := 0) ?_
  · rintro i st ⟨T, Z, q, rfl, a1, ez, hq, a2, a3, a4, a5⟩
    by_cases h : i < s.length
    · have k1 : (i : Int) < s.length := by omega
      have k2 : (0 : Int) ≤ i := by omega
      have e1 : IntKind.i64.wrap ((i : Int) + 1) = i + 1 := w64 (by omega) (by omega)
      have hA2 : Z[H.length]? = some ⟨[x, y, .sc (.int .i64 t)], true, true⟩ := by rw [← hA]; exact ez.at a0
      obtain ⟨r, o, hxr, hr⟩ := ((e0.trans ez).isL hx).get (i := i) h
      have hc := inLS (s.getD i 0) ((e0.trans ez).isL hy) hg
      have hll := leftL_len (s.take i) g
      have htl : (s.take i).length = i := by rw [List.length_take]; omega
      have hls := leftL_s s g i h
      generalize leftL (s.take i) g = B at *
      have ql := at_lt a2
      have hq2 : ∀ g : Reg, (Z ++ [g])[q]? = some ⟨ints .i64 B, true, true⟩ := fun g => (at_more _ _ _ ql).trans a2
      have b1 : (B.length + 1) * 8 ≤ 140737488355328 := by omega
      have b2 : B.length + 1 ≤ 140737488355328 := by omega
      have lxz := fun e => ((e0.trans ez).isL hx).len e
      simp -implicitDefEqProofs only [↓w_seq, ↓w_region, ↓ops_cons, ↓g_move, ↓g_fieldAddrT, Nat.reduceLT, ev_tab, a5, ne_eq, Nat.reduceEqDiff, not_false_eq_true, upd_ne, a3, fadr32_0, Nat.zero_add, ↓g_load, upd_eq, ↓g_len, Try.underlying22, ↓g_binOp, ↓ops_nil, ↓w_cond, ↓w_skip, ↓w_block, ↓w_exit, ↓g_assign, ↓w_ret, a4, retP_1, res_tmp, onS_some, if_true, rd_def, tyOk22, agg22, cells22, hA2, rd_onec, List.getElem?_cons_zero, lxz, b_lss, k1, decide_true, onB_true]
      by_cases hm : s.getD i 0 ∈ g
      · rw [if_pos hm] at hls
        rw [decide_eq_true hm] at hc
        refine drawn [(1, 0), (3, 0), (6, 0)] follows (by kernel_rfl) (by kernel_rfl) ?_
        simp -implicitDefEqProofs only [hxr, ↓dops_cons, ↓g_fieldAddrT, Nat.reduceLT, ev_tab, ne_eq, Nat.reduceEqDiff, not_false_eq_true, upd_ne, a3, fadr32_1, Nat.zero_add, ↓g_load, upd_eq, fadr32_0, ↓g_move, ↓g_indexAddr, Try.underlying22, a5, onS_some, rd_def, tyOk22, agg22, cells22, hA2, rd_onec, List.getElem?_cons_zero, adr_sl, k2, k1, cells3, tyOk3, and_self, Int.toNat_natCast, Nat.mul_one, if_true, agg3, hr, rd_ints, h, List.getElem?_cons_succ]
        refine call1S (by simp -implicitDefEqProofs only [List.map_cons, Nat.reduceLT, ev_tab, ne_eq, Nat.reduceEqDiff, not_false_eq_true, upd_ne, upd_eq, List.map_nil] <;> rfl) hc ?_
        simp -implicitDefEqProofs only [↓dops_cons, ↓g_unOp, Nat.reduceLT, ev_tab, upd_eq, u_not, Bool.not_true, Option.map_some, ↓dops_p, ↓w_cond, ↓w_region, ↓ops_cons, ↓g_move, ↓g_fieldAddrT, ne_eq, Nat.reduceEqDiff, not_false_eq_true, upd_ne, ↓g_load, ↓g_indexAddr, Try.underlying22, ↓g_buildSlice, List.map_cons, List.map_nil, ↓g_append, ↓g_assign, ↓ops_nil, ↓g_binOp, ev_const, of_int, ↓w_skip, onS_some, onB_false]
        refine ⟨pairs_cons (same_H rfl) (pairs_cons (same_H rfl) (pairs_cons (same_H rfl) (pairs_nil))), ?_⟩
        simp -implicitDefEqProofs only [a5, b_add, e1, onS_some]
        refine ⟨i + 1, by omega, _, _, q, rfl, by omega, ez, hq, by rw [hls]; exact a2, ?_, ?_, ?_⟩ <;> simp -implicitDefEqProofs only [ne_eq, Nat.reduceEqDiff, not_false_eq_true, upd_ne, a3, a4, hls, upd_eq] <;> rfl
      · rw [if_neg hm] at hls
        rw [decide_eq_false hm] at hc
        refine drawn [(1, 0), (3, 0), (6, 0)] follows (by kernel_rfl) (by kernel_rfl) ?_
        simp -implicitDefEqProofs only [hxr, ↓dops_cons, ↓g_fieldAddrT, Nat.reduceLT, ev_tab, ne_eq, Nat.reduceEqDiff, not_false_eq_true, upd_ne, a3, fadr32_1, Nat.zero_add, ↓g_load, upd_eq, fadr32_0, ↓g_move, ↓g_indexAddr, Try.underlying22, a5, onS_some, rd_def, tyOk22, agg22, cells22, hA2, rd_onec, List.getElem?_cons_zero, adr_sl, k2, k1, cells3, tyOk3, and_self, Int.toNat_natCast, Nat.mul_one, if_true, agg3, hr, rd_ints, h, List.getElem?_cons_succ]
        refine call1S (by simp -implicitDefEqProofs only [List.map_cons, Nat.reduceLT, ev_tab, ne_eq, Nat.reduceEqDiff, not_false_eq_true, upd_ne, upd_eq, List.map_nil] <;> rfl) hc ?_
        simp -implicitDefEqProofs only [↓dops_cons, ↓g_unOp, Nat.reduceLT, ev_tab, upd_eq, u_not, Bool.not_false, Option.map_some, ↓dops_p, ↓w_cond, ↓w_region, ↓ops_cons, ↓g_move, ↓g_fieldAddrT, ne_eq, Nat.reduceEqDiff, not_false_eq_true, upd_ne, ↓g_load, ↓g_indexAddr, Try.underlying22, ↓g_buildSlice, List.map_cons, List.map_nil, ↓g_append, ↓g_assign, ↓ops_nil, ↓g_binOp, ev_const, of_int, ↓w_skip, onS_some, onB_true]
        refine ⟨pairs_cons (same_H rfl) (pairs_cons (same_H rfl) (pairs_cons (same_H rfl) (pairs_nil))), ?_⟩
        have hA3 : ∀ g : Reg, (Z ++ [g])[H.length]? = some ⟨[x, y, .sc (.int .i64 t)], true, true⟩ := fun g => (at_more _ _ _ (at_lt hA2)).trans hA2
        simp -implicitDefEqProofs only [a3, fadr32_0, Nat.zero_add, a5, a4, apS22, b_add, e1, onS_some, rd_def, tyOk22, agg22, cells22, hA2, hxr, rd_onec, List.getElem?_cons_zero, adr_sl, k2, k1, cells3, tyOk3, and_self, Int.toNat_natCast, Nat.mul_one, if_true, agg3, hr, rd_ints, h, bs3_1, alK_some, ints_one, hq2, src_sl, at_end, at_ints, List.length_cons, List.length_nil, Nat.le_refl, List.drop_zero, List.take_succ_cons, List.take_zero, ap_ints, b1, b2, List.length_append, List.take_length, true_and]
        refine ⟨i + 1, by omega, _, _, Z.length + 1, rfl, by omega, (((ez.add _).kill (by rw [List.length_append]; exact hq)).add _), ?_, ?_, ?_, ?_, ?_⟩
        · have := ez.1
          rw [List.length_append] at this
          simp at this
          omega
        · have := at_end (killReg (Z ++ [⟨ints .i64 [s.getD i 0], true, true⟩]) q) ⟨ints .i64 (B ++ [s.getD i 0]), true, true⟩
          rw [hls]
          rwa [kill_len, List.length_append, List.length_singleton] at this
        all_goals (simp -implicitDefEqProofs only [ne_eq, Nat.reduceEqDiff, not_false_eq_true, upd_ne, a3, upd_eq, hls, List.length_append, List.length_cons, List.length_nil, Nat.zero_add] <;> rfl)
    · have k1 : ¬ (i : Int) < s.length := by omega
      have hi : s.take i = s := List.take_of_length_le (by omega)
      rw [hi] at a2 a4
      have lxz := fun e => ((e0.trans ez).isL hx).len e
      have hA2 : Z[H.length]? = some ⟨[x, y, .sc (.int .i64 t)], true, true⟩ := by rw [← hA]; exact ez.at a0
      simp -implicitDefEqProofs only [↓w_seq, ↓w_region, ↓ops_cons, ↓g_move, ↓g_fieldAddrT, Nat.reduceLT, ev_tab, a5, ne_eq, Nat.reduceEqDiff, not_false_eq_true, upd_ne, a3, fadr32_0, Nat.zero_add, ↓g_load, upd_eq, ↓g_len, Try.underlying22, ↓g_binOp, ↓ops_nil, ↓w_cond, ↓w_skip, ↓w_block, ↓w_exit, ↓g_assign, ↓w_ret, a4, retP_1, res_tmp, onS_some, if_true, rd_def, tyOk22, agg22, cells22, hA2, rd_onec, List.getElem?_cons_zero, lxz, b_lss, k1, decide_false, onB_false]
      exact ⟨q, rfl, e0.trans ez, by omega, a2⟩
  · refine ⟨_, _, H.length + 1, rfl, by omega, (by simpa only [List.append_assoc, List.cons_append, List.nil_append] using Ext.more (H ++ [A]) [⟨ints .i64 [], true, true⟩]), Nat.le_refl _, ?_, ?_, ?_, ?_⟩
    · exact hap_k _ _ 1
    all_goals (simp -implicitDefEqProofs only [ne_eq, Nat.reduceEqDiff, not_false_eq_true, upd_ne, upd_eq, List.take_zero, Int.cast_ofNat_Int] <;> rfl)
end Go.Proofs.Ytcjjcpdfnndenaa.Sim
